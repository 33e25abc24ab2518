/- The call itself: arguments read only, given for good, or lent. Own work; generic. -/
import Derived.Test.YtcbpckbehdaloaaAmYb
set_option linter.unusedSimpArgs false
set_option linter.unusedVariables false
namespace Go.Am
open Go

def asObs (os : Objs) : Obs := os.map fun p => (p.1, .arr p.2.1 p.2.2)
def New.toO (m : New) : NewO := ⟨m.id, .arr m.k m.rows, m.v, m.S⟩

/-- What comes back of a value that was lent: objects turned, and objects found in them. -/
inductive Bk : Nat → AV → Arg → Obs → Obs → Prop
  | sl {i id k : Nat} {rows : List (List Cell)} : Bk i (.ref id []) (.c (.sl true k rows)) [(id, .arr k rows)] []
  | bx {i id : Nat} {cs : List Cell} : Bk i (.bx id 0) (.c (.bx cs)) [(id, .box (openRow i cs).1)] (asObs (openRow i cs).2)
  | aggNil {i : Nat} : Bk i (.agg []) (.row []) [] []
  | aggRef {i id k : Nat} {rows : List (List Cell)} {ys : List AV} {cs : List Cell} {rn nf : Obs} (t : Bk i (.agg ys) (.row cs) rn nf) : Bk i (.agg (.ref id [] :: ys)) (.row (.sl true k rows :: cs)) ((id, .arr k rows) :: rn) nf
  | aggC {i : Nat} {x x' : Cell} {ys : List AV} {cs : List Cell} {rn nf : Obs} (t : Bk i (.agg ys) (.row cs) rn nf) : Bk i (.agg (.c x :: ys)) (.row (x' :: cs)) rn nf
inductive BkL (avs : List AV) : Nat → List (Nat × Arg) → Obs → Obs → Prop
  | nil {i : Nat} : BkL avs i [] [] []
  | cons {i j : Nat} {av : AV} {x : Arg} {bk : List (Nat × Arg)} {rn nf rn' nf' : Obs} (hx : avs[j]? = some av) (h : Bk i av x rn nf) (t : BkL avs (i + 100000) bk rn' nf') : BkL avs i ((j, x) :: bk) (rn ++ rn') (nf ++ nf')

theorem openCell_ids (i : Nat) (c : Cell) : ∀ j ∈ (openCell i c).1.ids, j ∈ (openCell i c).2.map (·.1) := by
  intro j hj
  cases c with
  | lit => simp [openCell, AV.ids] at hj
  | bx => simp [openCell, AV.ids] at hj
  | sl o k rows => cases o <;> simp [openCell, AV.ids] at hj ⊢ <;> exact hj
theorem openRow_ids : ∀ (i : Nat) (cs : List Cell), ∀ j ∈ idsL (openRow i cs).1, j ∈ (openRow i cs).2.map (·.1)
  | _, [], j, hj => by simp [openRow, idsL] at hj
  | i, c :: cs, j, hj => by
    simp only [openRow, idsL, List.mem_append] at hj
    simp only [openRow, List.map_append, List.mem_append]
    exact hj.imp (openCell_ids i c j) (openRow_ids _ cs j)

section
variable {P : Program} {n : Nat}
variable {pn : Nat → Option Value} {w0 : World} {A0 F0 : Blks} {hv : Nat → Value} {T : Nat → Blks} {st st' : St} {a : Act} {w w' : World}

/-- What is known of what came back. -/
structure BackOk (w' : World) (B G : Blks) (hv : Nat → Value) (rn nf : Obs) (ns : List NewO) : Prop where
  eq : ∀ m ∈ ns, (m.at ∈ rn ∧ m.v = hv m.id) ∨ m.at ∈ nf
  has : ∀ p ∈ rn, ∃ m ∈ ns, m.at = p
  ids : (ns.map NewO.id).Perm ((rn ++ nf).map (·.1))
  sub : ∀ m ∈ ns, ∀ b, m.S b → G b
  dis : ns.Pairwise fun p q => ∀ b, p.S b → ¬ q.S b
  ok : ∀ ns', (∀ m ∈ ns, m ∈ ns') → ∀ m ∈ ns, ObjOk w' B ns' m
  bx : ∀ m ∈ ns, ∀ j ∈ m.o.ids, j ∈ ns.map NewO.id

theorem BackOk.nil {B G : Blks} : BackOk w' B G hv [] [] [] := ⟨fun m h => by simp at h, fun p h => by simp at h, .refl _, fun m h => by simp at h, .nil, fun _ _ m h => by simp at h, fun m h => by simp at h⟩

theorem BackOk.append {B G G1 G2 : Blks} {rn1 nf1 rn2 nf2 : Obs} {n1 n2 : List NewO} (h1 : BackOk w' B G1 hv rn1 nf1 n1) (h2 : BackOk w' B G2 hv rn2 nf2 n2) (hd : ∀ b, G1 b → ¬ G2 b) (g1 : ∀ b, G1 b → G b) (g2 : ∀ b, G2 b → G b) :
    BackOk w' B G hv (rn1 ++ rn2) (nf1 ++ nf2) (n1 ++ n2) where
  eq := fun m hm => by
    rcases List.mem_append.1 hm with h | h
    · exact (h1.eq m h).imp (fun ⟨a, b⟩ => ⟨List.mem_append_left _ a, b⟩) (fun a => List.mem_append_left _ a)
    · exact (h2.eq m h).imp (fun ⟨a, b⟩ => ⟨List.mem_append_right _ a, b⟩) (fun a => List.mem_append_right _ a)
  has := fun p hp => by
    rcases List.mem_append.1 hp with h | h
    · obtain ⟨m, hm, e⟩ := h1.has p h; exact ⟨m, List.mem_append_left _ hm, e⟩
    · obtain ⟨m, hm, e⟩ := h2.has p h; exact ⟨m, List.mem_append_right _ hm, e⟩
  ids := by
    have := h1.ids.append h2.ids
    simp only [List.map_append] at this ⊢
    refine this.trans ?_
    simp only [List.append_assoc]
    refine List.Perm.append_left _ ?_
    rw [← List.append_assoc, ← List.append_assoc]
    exact List.Perm.append_right _ List.perm_append_comm
  sub := fun m hm b hb => (List.mem_append.1 hm).elim (fun h => g1 b (h1.sub m h b hb)) (fun h => g2 b (h2.sub m h b hb))
  dis := List.pairwise_append.2 ⟨h1.dis, h2.dis, fun p hp q hq b hb hb' => hd b (h1.sub p hp b hb) (h2.sub q hq b hb')⟩
  ok := fun ns' hns m hm => (List.mem_append.1 hm).elim (fun h => h1.ok ns' (fun q hq => hns q (by simp [hq])) m h) (fun h => h2.ok ns' (fun q hq => hns q (by simp [hq])) m h)
  bx := fun m hm j hj => by
    rw [List.map_append, List.mem_append]
    exact (List.mem_append.1 hm).imp (fun h => h1.bx m h j hj) (fun h => h2.bx m h j hj)

theorem bk_news {A B : Blks} {obj : Nat → Option Obj} {i : Nat} {av : AV} {x : Arg} {rn nf : Obs} (h : Bk i av x rn nf) : ∀ {v : Value} {G : Blks}, AVSim w A hv obj av v → ArgSim w' B G x v → ∃ ns, BackOk w' B G hv rn nf ns := by
  induction h with
  | @sl id k rows =>
    intro v G ha hs
    cases ha with
    | ref ho hg hh =>
      simp only [Hdr] at hh
      cases hs with
      | c ho2 =>
        refine ⟨[⟨id, .arr k rows, v, G⟩], ?_, ?_, .refl _, ?_, by simp, ?_, ?_⟩
        · intro m hm; simp at hm; subst hm; exact .inl ⟨by simp [NewO.at], hh⟩
        · intro p hp; simp at hp; subst hp; exact ⟨_, List.mem_cons_self .., rfl⟩
        · intro m hm b hb; simp at hm; subst hm; exact hb
        · intro ns' _ m hm; simp at hm; subst hm; exact ho2
        · intro m hm j hj; simp at hm; subst hm; simp [Obj.ids] at hj
  | @bx id cs =>
    intro v G ha hs
    have hvv : v = hv id := by
      cases ha with
      | bx ho hh => exact hh.symm
      | mp ho hh => exact hh.symm
    cases hs with
    | c ho2 =>
      cases ho2 with
      | @bx _ _ b c e Gi hb hsz hF hG hGb hd hh =>
        obtain ⟨ns0, k1, k2⟩ := open_row (w := w') (A := B) cs i c.toList Gi (by simpa using hsz) (fun i j b hij => hd i j b hij) (fun i x v h1 h2 => hh i x v h1 (by simpa using h2))
        have hat : ∀ m ∈ ns0, m.toO.at ∈ asObs (openRow i cs).2 := fun m hm => by
          rw [← k1.eq]; exact List.mem_map.2 ⟨m.obj, List.mem_map.2 ⟨m, hm, rfl⟩, rfl⟩
        have hidn : (ns0.map New.toO).map NewO.id = (asObs (openRow i cs).2).map (·.1) := by
          rw [← k1.eq]; simp [asObs, New.toO, New.obj, Function.comp_def]
        refine ⟨⟨id, .box (openRow i cs).1, .pointer (some ⟨b, 0, none⟩), fun x => x = b⟩ :: ns0.map New.toO, ?_, ?_, ?_, ?_, ?_, ?_, ?_⟩
        · intro m hm
          rcases List.mem_cons.1 hm with rfl | hm
          · exact .inl ⟨by simp [NewO.at], hvv⟩
          · obtain ⟨q, hq, rfl⟩ := List.mem_map.1 hm; exact .inr (hat q hq)
        · intro p hp; simp at hp; subst hp; exact ⟨_, List.mem_cons_self .., rfl⟩
        · rw [List.map_cons, hidn]; exact .refl _
        · intro m hm x hx
          rcases List.mem_cons.1 hm with rfl | hm
          · have hx' : x = b := hx
            rw [hx']; exact hF
          · obtain ⟨q, hq, rfl⟩ := List.mem_map.1 hm
            obtain ⟨j, hj⟩ := (k1.own q hq).2 x hx
            exact hG j x hj
        · refine List.pairwise_cons.2 ⟨fun q hq x hx hx2 => ?_, ?_⟩
          · obtain ⟨m, hm, rfl⟩ := List.mem_map.1 hq
            have hx' : x = b := hx
            subst hx'
            obtain ⟨j, hj⟩ := (k1.own m hm).2 x hx2
            exact hGb j hj
          · exact List.Pairwise.map _ (fun _ _ h => h) k1.dis
        · intro ns' hns m hm
          rcases List.mem_cons.1 hm with rfl | hm
          · refine ⟨b, c, e, rfl, hb, by rw [openRow_length]; exact hsz, rfl, fun j y u h1 h2 hv2 obj2 hat2 => k2 hv2 obj2 (fun m hm => ?_) j y u h1 (by simpa using h2)⟩
            exact hat2 m.toO (hns _ (List.mem_cons_of_mem _ (List.mem_map.2 ⟨m, hm, rfl⟩)))
          · obtain ⟨q, hq, rfl⟩ := List.mem_map.1 hm; exact (k1.own q hq).1
        · intro m hm j hj
          rw [List.map_cons, hidn]
          rcases List.mem_cons.1 hm with rfl | hm
          · refine List.mem_cons_of_mem _ ?_
            have := openRow_ids i cs j hj
            simpa [asObs, Function.comp_def] using this
          · obtain ⟨q, hq, rfl⟩ := List.mem_map.1 hm; simp [New.toO, Obj.ids] at hj
  | aggNil => intro v G _ _; exact ⟨[], .nil⟩
  | @aggRef id k rows ys cs rn nf t ih =>
    intro v G ha hs
    cases ha with
    | @agg _ us hz hh =>
      cases hs with
      | @row _ _ _ Gi hz2 hG hd hh2 =>
        have hus : ∃ u us', us = (u :: us').toArray := by
          have : us.size = ys.length + 1 := by simpa using hz
          cases h : us.toList with
          | nil => have h2 : us.toList.length = 0 := by rw [h]; rfl
                   rw [Array.length_toList] at h2; omega
          | cons u us' => exact ⟨u, us', by rw [← h]⟩
        obtain ⟨u, us', rfl⟩ := hus
        obtain ⟨ns, kb⟩ := ih (v := .agg us'.toArray) (G := fun b => ∃ j, Gi (j + 1) b) (.agg (by simpa using hz) fun i y u h1 h2 => hh (i + 1) y u (by simpa using h1) (by simpa using h2))
          (.row (G := fun j => Gi (j + 1)) (by simpa using hz2) (fun j b hb => ⟨j, hb⟩) (fun i j b hij => hd _ _ b (by omega)) fun i x v h1 h2 => hh2 (i + 1) x v (by simpa using h1) (by simpa using h2))
        have h0 := hh 0 (.ref id []) u rfl (by simp)
        have h02 := hh2 0 (.sl true k rows) u rfl (by simp)
        have hu : u = hv id := by cases h0 with | ref ho hg hhd => simpa only [Hdr] using hhd
        have one : BackOk w' B (Gi 0) hv [(id, .arr k rows)] [] [⟨id, .arr k rows, u, Gi 0⟩] := ⟨fun m hm => by simp at hm; subst hm; exact .inl ⟨by simp [NewO.at], hu⟩, fun p hp => by simp at hp; subst hp; exact ⟨_, List.mem_cons_self .., rfl⟩, .refl _,
          fun m hm b hb => by simp at hm; subst hm; exact hb, by simp, fun ns' _ m hm => by simp at hm; subst hm; exact h02, fun m hm j hj => by simp at hm; subst hm; simp [Obj.ids] at hj⟩
        exact ⟨_, one.append kb (fun b h1 ⟨j, h2⟩ => hd 0 (j + 1) b (by omega) h1 h2) (fun b hb => hG 0 b hb) (fun b ⟨j, hb⟩ => hG _ b hb)⟩
  | @aggC x x' ys cs rn nf t ih =>
    intro v G ha hs
    cases ha with
    | @agg _ us hz hh =>
      cases hs with
      | @row _ _ _ Gi hz2 hG hd hh2 =>
        have hus : ∃ u us', us = (u :: us').toArray := by
          have : us.size = ys.length + 1 := by simpa using hz
          cases h : us.toList with
          | nil => have h2 : us.toList.length = 0 := by rw [h]; rfl
                   rw [Array.length_toList] at h2; omega
          | cons u us' => exact ⟨u, us', by rw [← h]⟩
        obtain ⟨u, us', rfl⟩ := hus
        exact ih (v := .agg us'.toArray) (G := G) (.agg (by simpa using hz) fun i y u h1 h2 => hh (i + 1) y u (by simpa using h1) (by simpa using h2))
          (.row (G := fun j => Gi (j + 1)) (by simpa using hz2) (fun j b hb => hG _ b hb) (fun i j b hij => hd _ _ b (by omega)) fun i x v h1 h2 => hh2 (i + 1) x v (by simpa using h1) (by simpa using h2))

theorem bkl_news {A B : Blks} {obj : Nat → Option Obj} {avs : List AV} {i : Nat} {bk : List (Nat × Arg)} {rn nf : Obs} (h : BkL avs i bk rn nf) : ∀ {vs : List Value} {G : Nat → Blks},
    (∀ (j : Nat) av v, avs[j]? = some av → vs[j]? = some v → AVSim w A hv obj av v) → vs.length = avs.length → (∀ i j b, i ≠ j → G i b → ¬ G j b) → (∀ (q : Nat) p, bk[q]? = some p → ArgSim w' B (G q) p.2 (vs.getD p.1 undef)) →
    ∃ ns, BackOk w' B (fun b => ∃ q, G q b) hv rn nf ns := by
  induction h with
  | nil => intro _ _ _ _ _ _; exact ⟨[], .nil⟩
  | @cons i j av x bk rn nf rn' nf' hx h t ih =>
    intro vs G ha hl hd hs
    have hjl : j < vs.length := by rw [hl]; exact (List.getElem?_eq_some_iff.1 hx).1
    have h0 := hs 0 (j, x) rfl
    have e : vs.getD j undef = vs[j] := by simp [List.getD_eq_getElem?_getD, hjl]
    simp only [e] at h0
    obtain ⟨n1, k1⟩ := bk_news h (ha j av vs[j] hx (by simp [hjl])) h0
    obtain ⟨n2, k2⟩ := ih (vs := vs) (G := fun q => G (q + 1)) ha hl (fun i j b hij => hd _ _ b (by omega)) (fun q p hp => hs (q + 1) p (by simpa using hp))
    exact ⟨_, k1.append k2 (fun b h1 ⟨q, h2⟩ => hd 0 (q + 1) b (by omega) h1 h2) (fun b hb => ⟨0, hb⟩) (fun b ⟨q, hb⟩ => ⟨q + 1, hb⟩)⟩

def alikeB : Obj → Obj → Bool
  | .arr k _, .arr k' _ => Nat.beq k k'
  | .box _, .box _ => true
  | _, _ => false
def Obj.isBox : Obj → Bool
  | .box _ => true
  | _ => false
def renewB (ms : Obs) (ks : List Nat) (p : Nat × Obj) : Bool := ms.any fun q => Nat.beq q.1 p.1 && (alikeB q.2 p.2 && (q.2.isBox || ks.any (Nat.beq · p.1)))
theorem renewB_spec {ms : Obs} {ks : List Nat} {p : Nat × Obj} (h : renewB ms ks p = true) : ∃ o, (p.1, o) ∈ ms ∧ Alike o p.2 ∧ ((∃ k rows, o = .arr k rows) → p.1 ∈ ks) := by
  obtain ⟨q, hq, hb⟩ := List.any_eq_true.1 h
  simp only [Bool.and_eq_true] at hb
  obtain ⟨h1, h2, h3⟩ := hb
  have e := Nat.eq_of_beq_eq_true h1
  obtain ⟨q1, q2⟩ := q
  obtain ⟨p1, p2⟩ := p
  dsimp only at e h2 h3 ⊢
  subst e
  refine ⟨q2, hq, ?_, fun ⟨k, rows, ho⟩ => ?_⟩
  · cases q2 <;> cases p2 <;> simp only [alikeB, Bool.false_eq_true] at h2
    · have := Nat.eq_of_beq_eq_true h2; subst this; exact .inl ⟨_, _, _, rfl, rfl⟩
    · exact .inr ⟨_, _, rfl, rfl⟩
  · subst ho
    simp only [Obj.isBox, Bool.false_or, List.any_eq_true] at h3
    obtain ⟨x, hx, he⟩ := h3
    rw [← Nat.eq_of_beq_eq_true he]; exact hx

def needsO (os : Obs) : List Req := os.map fun p => .obj p.1 p.2
def freshL (l : List Nat) : List Req := l.map .fresh

/-- A function, with what comes back. -/
def FnB (P : Program) (f : FuncId) (args res : List Arg) (back : List (Nat × Arg)) : Prop := Fn P f args fun r b => r = res ∧ b = back
theorem FnB.ofP {f : FuncId} {args res : List Arg} (h : FnP P f args res) : FnB P f args res [] := h

/-- The state behind a call. -/
def callU (d : Nat) (res : List Arg) (ms rn nf : Obs) (ks : List Nat) : List Upd :=
  dels (ms.map (·.1)) ++ (killsU ks ++ (putsO (asObs (openRes d res).2 ++ (rn ++ nf)) ++ [.set d (openRes d res).1]))

theorem call_core {f : FuncId} {avs : List AV} {args res : List Arg} {back : List (Nat × Arg)} {ls ms rn nf : Obs} {ks : List Nat} {d : Nat} {vs : List Value} {o : Oper}
    (hT : StSim n pn w0 A0 F0 hv T st a w) (hF : FnB P f args res back) (hg : GivL avs args ls ms) (hl : vs.length = avs.length)
    (hvs : ∀ (i : Nat) av v, avs[i]? = some av → vs[i]? = some v → AVSim w (Sh A0 F0 w0 T st.obj w) hv st.obj av v)
    (hls : ∀ p ∈ ls, st.obj p.1 = some p.2) (hms : ∀ p ∈ ms, st.obj p.1 = some p.2) (hsep : noCommon ls ms = true)
    (hsol : ls = [] ∨ (∀ x ∈ res, x.solid = true) ∧ ∀ p ∈ back, p.2.solid = true) (hbk : BkL avs (d + 600000) back rn nf) (hnd : nodupB ((asObs (openRes d res).2 ++ (rn ++ nf)).map (·.1)) = true)
    (hrn : rn.all (renewB ms ks) = true) (hfr : ∀ p ∈ asObs (openRes d res).2 ++ nf, st.used p.1 = false) (hn : d < n) (hod : o.dst = some d)
    (hrun : (execOp a.eval o).run P w = .ok (.enter f vs.toArray) w) {K : Act → World → Prop} {Q : Exit → Act → World → Prop}
    (hK : ∀ a' w', Sim n pn w0 A0 F0 (apps (callU d res ms rn nf ks) st) a' w' → K a' w') : o.wp P a w K Q := by
  have hargs := givL_sim hT hg hls hms hl hvs
  have lt : ∀ {os : Obs}, (∀ p ∈ os, st.obj p.1 = some p.2) → ∀ b, ofs T os b → b < w.heap.size := by
    rintro os ho b ⟨p, hp, hb⟩
    exact (hT.own p.1 (by simp [ho p hp]) b hb).2
  have hBase : Base w (fun b => Sh A0 F0 w0 T st.obj w b ∨ ofs T ls b) (ofs T ms) := ⟨fun b hb => hb.elim (fun h => h.2.1) (fun h => lt hls b h), fun b h => lt hms b h, fun b hb hm => by
    rcases hb with hb | hb
    · obtain ⟨p, hp, h⟩ := hm; exact hb.2.2 p.1 (by simp [hms p hp]) h
    · exact ofs_sep hT hsep hls hms hb hm⟩
  have hcall := hF w _ _ _ hBase hargs
  unfold Oper.wp
  rw [hrun, Oper.upon_enter]
  refine hcall.mono ?_
  rintro e w' ⟨res', rvs, back', F', rfl, ⟨rfl, rfl⟩, hframe, hF', hbl, hrl, G, s1, s2, s3, s4⟩
  -- what may be shared behind
  have key : ∃ B : Blks, (∀ (i : Nat) x v, (res' ++ back'.map (·.2))[i]? = some x → (rvs ++ back'.map fun p => vs.getD p.1 undef)[i]? = some v → ArgSim w' B (G i) x v) ∧
      ∀ b, B b → Sh A0 F0 w0 T st.obj w b ∨ ((ofs T ms b ∨ (w.heap.size ≤ b ∧ b < w'.heap.size)) ∧ ¬ F' b) := by
    rcases hsol with rfl | ⟨h1, h2⟩
    · refine ⟨_, s4, fun b hb => ?_⟩
      obtain ⟨g1, g2, g3⟩ := hb
      rcases g1 with (h | ⟨p, hp, _⟩) | h | h
      · exact .inl h
      · simp at hp
      · exact .inr ⟨.inl h, g3⟩
      · exact .inr ⟨.inr ⟨h, g2⟩, g3⟩
    · refine ⟨noBlk, fun i x v h3 h4 => (s4 i x v h3 h4).solid ?_ _, fun b f => f.elim⟩
      rcases List.mem_append.1 (List.mem_of_getElem? h3) with h | h
      · exact h1 x h
      · obtain ⟨p, hp, rfl⟩ := List.mem_map.1 h; exact h2 p hp
  obtain ⟨B, k1, k2⟩ := key
  have hresA : ArgsSim w' B (fun b => ∃ i, i < res'.length ∧ G i b) res' rvs :=
    ⟨fun i b => i < res'.length ∧ G i b, hrl, fun i b hb => ⟨i, hb⟩, fun i j b hij h1 h2 => s3 i j b hij h1.2 h2.2, fun i x v h1 h2 => by
      have hi := (List.getElem?_eq_some_iff.1 h1).1
      have h3 := k1 i x v (by rw [List.getElem?_append_left hi]; exact h1) (by rw [List.getElem?_append_left (by omega)]; exact h2)
      exact h3.mono (fun _ h => h) (fun b hb => ⟨hi, hb⟩)⟩
  obtain ⟨n1, o1, o2⟩ := open_res d hresA
  obtain ⟨n2, b1⟩ := bkl_news (w := w) (w' := w') (B := B) hbk hvs hl (G := fun q => G (res'.length + q)) (fun i j b hij => s3 _ _ b (by omega)) (fun q p hp => by
    have hq := (List.getElem?_eq_some_iff.1 hp).1
    refine k1 (res'.length + q) p.2 _ ?_ ?_
    · rw [List.getElem?_append_right (by omega), Nat.add_sub_cancel_left, List.getElem?_map, hp]; rfl
    · rw [List.getElem?_append_right (by omega), hrl, Nat.add_sub_cancel_left, List.getElem?_map, hp]; rfl)
  let ns : List NewO := n1.map New.toO ++ n2
  have hid1 : (n1.map New.toO).map NewO.id = (asObs (openRes d res').2).map (·.1) := by
    rw [← o1.eq]; simp [asObs, New.toO, New.obj, Function.comp_def]
  have hat1 : ∀ m ∈ n1, m.toO.at ∈ asObs (openRes d res').2 := fun m hm => by
    rw [← o1.eq]; exact List.mem_map.2 ⟨m.obj, List.mem_map.2 ⟨m, hm, rfl⟩, rfl⟩
  have hperm : (ns.map NewO.id).Perm ((asObs (openRes d res').2 ++ (rn ++ nf)).map (·.1)) := by
    simp only [ns, List.map_append, hid1]
    refine List.Perm.append_left _ ?_
    rw [← List.map_append]; exact b1.ids
  have hndp : (ns.map NewO.id).Nodup := hperm.nodup_iff.2 (nodupB_spec hnd)
  have hSF : ∀ m ∈ ns, ∀ b, m.S b → F' b := by
    intro m hm b hb
    rcases List.mem_append.1 hm with h | h
    · obtain ⟨q, hq, rfl⟩ := List.mem_map.1 h
      obtain ⟨i, hi, hG⟩ := (o1.own q hq).2 b hb
      exact s2 i b hG
    · obtain ⟨q, hq⟩ := b1.sub m h b hb
      exact s2 _ b hq
  have hSn : ∀ m ∈ ns, ∀ b, m.S b → ofs T ms b ∨ (w.heap.size ≤ b ∧ b < w'.heap.size) := fun m hm b hb => by
    obtain ⟨h1, h2⟩ := hF' b (hSF m hm b hb)
    exact h1.imp (fun h => h) (fun h => ⟨h, h2⟩)
  have hpw : ns.Pairwise fun p q => ∀ b, p.S b → ¬ q.S b := by
    refine List.pairwise_append.2 ⟨List.Pairwise.map _ (fun _ _ h => h) o1.dis, b1.dis, fun p hp q hq b h1 h2 => ?_⟩
    obtain ⟨m, hm, rfl⟩ := List.mem_map.1 hp
    obtain ⟨i, hi, hG⟩ := (o1.own m hm).2 b h1
    obtain ⟨j, hj⟩ := b1.sub q hq b h2
    exact s3 i (res'.length + j) b (by omega) hG hj
  have hof : ∀ b, ofs T ms b ↔ ∃ q, q ∈ ms.map (·.1) ∧ T q b := by
    intro b
    constructor
    · rintro ⟨p, hp, h⟩; exact ⟨p.1, List.mem_map.2 ⟨p, hp, rfl⟩, h⟩
    · rintro ⟨q, hq, h⟩; obtain ⟨p, hp, rfl⟩ := List.mem_map.1 hq; exact ⟨p, hp, h⟩
  obtain ⟨hv', T', g1, g2, g3⟩ := hT.swap (ds := ms.map (·.1)) (ks := ks) (w' := w') (fun q hq => by obtain ⟨p, hp, rfl⟩ := List.mem_map.1 hq; simp [hms p hp]) (hframe.mono fun b hb => (hof b).1 hb) ns hndp (by
      intro m hm
      rcases List.mem_append.1 hm with h | h
      · obtain ⟨q, hq, rfl⟩ := List.mem_map.1 h
        exact .inl (hfr _ (List.mem_append_left _ (hat1 q hq)))
      · rcases b1.eq m h with ⟨h1, h2⟩ | h1
        · obtain ⟨o, ho, hal, hk⟩ := renewB_spec (List.all_eq_true.1 hrn _ h1)
          exact .inr ⟨List.mem_map.2 ⟨_, ho, rfl⟩, h2, o, hms _ ho, hal, hk⟩
        · exact .inl (hfr _ (List.mem_append_right _ h1))) (fun m hm b hb => (hSn m hm b hb).imp (hof b).1 (fun h => h)) (by
      have sym : ∀ (l : List NewO), (l.Pairwise fun p q => ∀ b, p.S b → ¬ q.S b) → ∀ p ∈ l, ∀ q ∈ l, p.id ≠ q.id → ∀ b, p.S b → ¬ q.S b := by
        intro l
        induction l with
        | nil => intro _ p hp; simp at hp
        | cons x l ih =>
          intro hl p hp q hq hne b h1 h2
          obtain ⟨c1, c2⟩ := List.pairwise_cons.1 hl
          rcases List.mem_cons.1 hp with rfl | hp'
          · rcases List.mem_cons.1 hq with rfl | hq'
            · exact hne rfl
            · exact c1 q hq' b h1 h2
          · rcases List.mem_cons.1 hq with rfl | hq'
            · exact c1 p hp' b h2 h1
            · exact ih c2 p hp' q hq' hne b h1 h2
      exact sym ns hpw) B (fun b hb => (k2 b hb).imp (fun h => h) fun ⟨h1, h2⟩ => ⟨h1.imp (hof b).1 (fun h => h), fun m hm hS => h2 (hSF m hm b hS)⟩) (by
      intro m hm
      rcases List.mem_append.1 hm with h | h
      · obtain ⟨q, hq, rfl⟩ := List.mem_map.1 h; exact (o1.own q hq).1
      · exact b1.ok ns (fun q hq => List.mem_append_right _ hq) m h) (by
      intro m hm j hj
      rcases List.mem_append.1 hm with h | h
      · obtain ⟨q, hq, rfl⟩ := List.mem_map.1 h; simp [New.toO, Obj.ids] at hj
      · right; rw [List.map_append]; exact List.mem_append_right _ (b1.bx m h j hj))
  -- the same state, by the names that were promised
  have hsame : ∀ s : St, (apps (putsO (ns.map NewO.at)) s).env = (apps (putsO (asObs (openRes d res').2 ++ (rn ++ nf))) s).env := fun s => by rw [putsO_env, putsO_env]
  have hmemNs : ∀ p, p ∈ ns.map NewO.at → p ∈ asObs (openRes d res').2 ++ (rn ++ nf) := by
    intro p hp
    obtain ⟨m, hm, rfl⟩ := List.mem_map.1 hp
    rcases List.mem_append.1 hm with h | h
    · obtain ⟨q, hq, rfl⟩ := List.mem_map.1 h; exact List.mem_append_left _ (hat1 q hq)
    · rcases b1.eq m h with ⟨h1, _⟩ | h1
      · exact List.mem_append_right _ (List.mem_append_left _ h1)
      · exact List.mem_append_right _ (List.mem_append_right _ h1)
  have hids : (ns.map NewO.at).map (·.1) = ns.map NewO.id := by simp [NewO.at, Function.comp_def]
  have hnd2 : ((asObs (openRes d res').2 ++ (rn ++ nf)).map (·.1)).Nodup := nodupB_spec hnd
  have hmem2 : ∀ p, p ∈ asObs (openRes d res').2 ++ (rn ++ nf) → p ∈ ns.map NewO.at := by
    intro p hp
    have h1 : p.1 ∈ (ns.map NewO.at).map (·.1) := by rw [hids]; exact hperm.mem_iff.2 (List.mem_map.2 ⟨p, hp, rfl⟩)
    obtain ⟨q, hq, e⟩ := List.mem_map.1 h1
    have hq2 := hmemNs q hq
    have uniq : ∀ (l : Obs), (l.map (·.1)).Nodup → ∀ p ∈ l, ∀ q ∈ l, p.1 = q.1 → p = q := by
      intro l
      induction l with
      | nil => intro _ p hp; simp at hp
      | cons x l ih =>
        intro hl p hp q hq e
        simp only [List.map_cons, List.nodup_cons] at hl
        rcases List.mem_cons.1 hp with rfl | hp'
        · rcases List.mem_cons.1 hq with rfl | hq'
          · rfl
          · exact absurd (List.mem_map.2 ⟨q, hq', e.symm⟩) hl.1
        · rcases List.mem_cons.1 hq with rfl | hq'
          · exact absurd (List.mem_map.2 ⟨p, hp', e⟩) hl.1
          · exact ih hl.2 p hp' q hq' e
    exact uniq _ hnd2 q hq2 p hp e ▸ hq
  have hobjE : ∀ s : St, apps (putsO (ns.map NewO.at)) s = apps (putsO (asObs (openRes d res').2 ++ (rn ++ nf))) s := by
    intro s
    have he := hsame s
    have ho : (apps (putsO (ns.map NewO.at)) s).obj = (apps (putsO (asObs (openRes d res').2 ++ (rn ++ nf))) s).obj := by
      funext i
      by_cases hi : i ∈ (ns.map NewO.at).map (·.1)
      · obtain ⟨p, hp, rfl⟩ := List.mem_map.1 hi
        rw [putsO_new (by rw [hids]; exact hndp) p hp, putsO_new hnd2 p (hmemNs p hp)]
      · have hi2 : i ∉ (asObs (openRes d res').2 ++ (rn ++ nf)).map (·.1) := fun h => hi (by rw [hids]; exact hperm.mem_iff.2 h)
        rw [putsO_old hi, putsO_old hi2]
    have hu : (apps (putsO (ns.map NewO.at)) s).used = (apps (putsO (asObs (openRes d res').2 ++ (rn ++ nf))) s).used := by
      funext i
      have : ∀ x y : Bool, (x = true ↔ y = true) → x = y := by decide
      refine this _ _ ?_
      rw [putsO_used, putsO_used]
      refine or_congr Iff.rfl ⟨fun ⟨p, hp, h⟩ => ⟨p, hmemNs p hp, h⟩, fun ⟨p, hp, h⟩ => ⟨p, hmem2 p hp, h⟩⟩
    generalize apps (putsO (ns.map NewO.at)) s = s1 at *
    generalize apps (putsO (asObs (openRes d res').2 ++ (rn ++ nf))) s = s2 at *
    cases s1; cases s2; simp only at he ho hu; subst he ho hu; rfl
  have hst : apps (callU d res' ms rn nf ks) st = apps [.set d (openRes d res').1] (apps (dels (ms.map (·.1)) ++ (killsU ks ++ putsO (ns.map NewO.at))) st) := by
    unfold callU
    simp only [apps_append]
    rw [hobjE]
  rw [hod]
  refine hK _ _ ?_
  rw [hst]
  refine ⟨hv', T', g1.set hn fun _ => ?_⟩
  have hat : At hv' (apps (dels (ms.map (·.1)) ++ (killsU ks ++ putsO (ns.map NewO.at))) st).obj n1 := fun m hm => g2 m.toO (List.mem_append_left _ (List.mem_map.2 ⟨m, hm, rfl⟩))
  exact AVSim.mono (o2 hv' _ hat) g3
end
end Go.Am
