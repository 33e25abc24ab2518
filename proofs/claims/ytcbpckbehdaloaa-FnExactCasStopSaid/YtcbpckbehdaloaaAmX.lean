/- From a contract to a law's row. Own work; generic. -/
import Derived.Test.YtcbpckbehdaloaaAmU
import Derived.ProofKit
import Derived.WalkKit
set_option linter.unusedSimpArgs false
set_option linter.unusedVariables false
namespace Go.Am
open Go Go.ChangeShapes Go.WideShapes Go.RowKit

section
variable {H : Type} {enc : TypeId × Value → H} {P : Program} {W W' : World}

theorem Frame.sameAt (h : Frame noBlk W W') : ∀ p : MemPlace, p.block < W.heap.size → W.sameAt W' p
  | .cell b off, hb => by
    have := h.heap b hb (fun f => f)
    show W'.cell? _ = W.cell? _
    simp only [World.cell?, this]
  | .map b, hb => h.heap b hb (fun f => f)
theorem Frame.keptBut (h : Frame noBlk W W') (may : MemPlace → Prop) : W.keptBut W' may := by
  refine ⟨h.os, h.output, fun i hi => ?_⟩
  have := (World.keptBut_refl W may).2.2 i hi
  rw [h.heap i hi (fun f => f)]
  exact this

theorem trodAll_stays (hl : laidOutB P = true) (hF : Frame noBlk W W') : ∀ {ts : List TypeId} {vs : List Value} {ds : List (DataW H)} {ps : List MemPlace},
    DataW.TrodAll enc P W 0 (fun _ => true) true ts vs ds ps → (∀ t ∈ ts, P.readableRec t = true ∧ t < P.types.size) → (∀ p ∈ ps, p.block < W.heap.size) →
    DataW.TrodAll enc P W' 0 (fun b => decide (b < W.heap.size)) true ts vs ds ps
  | [], vs, ds, ps, h, _, _ => by
    cases vs <;> cases ds <;> simp [DataW.TrodAll] at h ⊢
    exact h
  | t :: ts, vs, ds, ps, h, hr, hp => by
    obtain ⟨v, vs', d, ds', p, q, rfl, rfl, rfl, h1, h2⟩ := trodAll_cons h
    refine ⟨p, q, ?_, trodAll_stays hl hF h2 (fun t ht => hr t (by simp [ht])) (fun x hx => hp x (by simp [hx])), rfl⟩
    exact WideElems.Trod_stays hl (hr t (by simp)).1 (hr t (by simp)).2 h1 (fun x hx => hF.sameAt x (hp x (by simp [hx]))) (fun x hx => by simpa using hp x (by simp [hx]))

theorem law_post {f : Func} {s : ChangeSpec} {args : Array Value} {ds gs : List (DataW H)} {before : List MemPlace} {tb : TypeId} (hW : DataW.Whole enc P f.params.toList s.vars false W args.toList ds gs before) (hv : s.vars = [])
    (hF : Frame noBlk W W') (hr : f.resultTypes = #[tb]) (hb : P.underlying tb = some .bool) (hl : laidOutB P = true) (hrd : ∀ t ∈ f.params.toList, P.readableRec t = true ∧ t < P.types.size)
    (hs : s.fn H ds = { results := [.lit (.bool true)], args := ds }) : s.post enc P f false true false false W args (.bool true) W' := by
  have hlt := hW.lt
  have hW2 := hW
  obtain ⟨p, q, hA, hV, hp, _, _⟩ := hW
  rw [hv] at hV
  have hgq : gs = [] ∧ q = [] := by cases gs <;> simp [DataW.TrodVars] at hV ⊢; exact hV
  obtain ⟨rfl, rfl⟩ := hgq
  have hpb : before = p := by simpa using hp
  subst hpb
  refine ⟨ds, [], before, [], before, [], hW2, ?_, ?_, ?_, hF.keptBut _, fun h => by cases h⟩
  · rw [hr, List.append_nil, hs]
    exact trodAll_mk1 (shut_bool hb _)
  · rw [List.append_nil, hs]
    exact trodAll_stays hl hF hA hrd hlt
  · rw [List.append_nil, hs, hv]
    rfl

/-- What a contract with a true answer gives. -/
theorem law_calls {fid : FuncId} {xs : List Arg} {vs : List Value} (hF : FnP P fid xs [.c (cB true)]) (ha : ArgsSim W (Here W) noBlk xs vs) : Calls P fid vs.toArray W fun e W' => e = .returned (.bool true) ∧ Frame noBlk W W' := by
  have := hF W (Here W) noBlk vs ⟨fun _ h => h, fun _ f => f.elim, fun _ _ f => f⟩ ha
  refine this.mono ?_
  rintro e W' ⟨res, rvs, back, F', rfl, ⟨rfl, rfl⟩, hfr, _, _, hlen, G, g1, g2, g3, g4⟩
  refine ⟨?_, hfr⟩
  match rvs, hlen with
  | [v], _ =>
    have := g4 0 (.c (cB true)) v rfl rfl
    cases this with
    | c ho => cases ho; rfl

/-- Arguments that are read alone. -/
theorem args_sim {xs : List Arg} {vs : List Value} (hl : vs.length = xs.length) (h : ∀ (i : Nat) x v, xs[i]? = some x → vs[i]? = some v → ArgSim W (Here W) noBlk x v) : ArgsSim W (Here W) noBlk xs vs :=
  ⟨fun _ => noBlk, hl, fun _ _ f => f, fun _ _ _ _ f => f.elim, h⟩
theorem args_nil : ArgsSim W (Here W) noBlk [] [] := args_sim rfl fun i x v h => by simp at h
theorem args_cons {x : Arg} {xs : List Arg} {v : Value} {vs : List Value} (h : ArgSim W (Here W) noBlk x v) (t : ArgsSim W (Here W) noBlk xs vs) : ArgsSim W (Here W) noBlk (x :: xs) (v :: vs) := by
  obtain ⟨G, h1, h2, h3, h4⟩ := t
  refine args_sim (by simp [h1]) fun i y u g1 g2 => ?_
  cases i with
  | zero => simp at g1 g2; subst g1 g2; exact h
  | succ i => exact (h4 i y u (by simpa using g1) (by simpa using g2)).mono (fun _ h => h) (h2 i)

theorem ok_slice {base : Nat} {t e : TypeId} {v : Value} (ht : P.underlying t = some (.slice e)) (h : Value.okWide P W .any base t v) : v.cells = #[v] := by
  unfold Value.okWide at h
  simp only [ht] at h
  unfold Cell.okWide at h
  cases v <;> simp only [ht, Go.Cell.ok] at h <;> first | rfl | exact h.elim
theorem ok_int {base : Nat} {t : TypeId} {k : IntKind} {v : Value} (ht : P.underlying t = some (.int k)) (h : Value.okWide P W .any base t v) : v.cells = #[v] := by
  unfold Value.okWide at h
  simp only [ht] at h
  unfold Cell.okWide at h
  cases v <;> simp only [ht, Go.Cell.ok] at h <;> first | rfl | exact h.elim
theorem ok_struct {base : Nat} {t : TypeId} {fs : Array Field} {v : Value} (ht : P.underlying t = some (.struct fs)) (h : Value.okWide P W .any base t v) : ∃ cs, v = .agg cs := by
  unfold Value.okWide at h
  simp only [ht] at h
  obtain ⟨cs, rfl, _⟩ := h
  exact ⟨cs, rfl⟩

/-- One struct, opened. -/
theorem OpensAs.row {α : Type} {k : Nat} {t : TypeId} {f : α → List Cell} {ok : α → Prop} (h : OpensAs P W t k f ok) {cs : Array Value} {d : DataW H} {ps : List MemPlace}
    (hd : DataW.Trod enc P W 0 (fun _ => true) true t (.agg cs) d ps) : ∃ a, ok a ∧ ArgSim W (Here W) noBlk (.row (f a)) (.agg cs) := by
  obtain ⟨fuel, hx⟩ := hd
  obtain ⟨h0, a, h1, h2, h3⟩ := h H enc fuel _ _ hx
  exact ⟨a, h1, .row (G := fun _ => noBlk) (by rw [h2, ← h0]; simp [Value.cells]) (fun _ _ f => f) (fun _ _ _ _ f => f.elim) fun i c v g1 g2 => h3 i c v g1 (by simpa [Value.cells] using g2)⟩

/-- One cell, opened. -/
theorem OpensAs.cell {α : Type} {t : TypeId} {f : α → Cell} {ok : α → Prop} (h : OpensAs P W t 1 (fun a => [f a]) ok) {v : Value} {d : DataW H} {ps : List MemPlace} (hv : v.cells = #[v])
    (hd : DataW.Trod enc P W 0 (fun _ => true) true t v d ps) : ∃ a, ok a ∧ ArgSim W (Here W) noBlk (.c (f a)) v := by
  obtain ⟨fuel, hx⟩ := hd
  rw [hv] at hx
  obtain ⟨_, a, h1, _, h2⟩ := h H enc fuel _ _ hx
  exact ⟨a, h1, .c (h2 0 _ _ rfl rfl)⟩
end
end Go.Am
