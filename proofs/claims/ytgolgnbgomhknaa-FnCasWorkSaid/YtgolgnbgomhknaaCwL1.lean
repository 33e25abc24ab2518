/- The plain law. Own work. -/
import Derived.Test.YtgolgnbgomhknaaCwP2
set_option maxRecDepth 100000
set_option linter.unusedVariables false
set_option linter.unusedSimpArgs false
section
namespace Go.Am.Pl
open Go
theorem yr0 {data : List Int} {v num : Int} (hd : datOk data = true) (hv : -1 ≤ v ∧ v ≤ 2) (hn : -99 ≤ num ∧ num ≤ 99) : z83 data v num = some (datB data v num) := by
  have hl := zz8 hd
  have hs : data.length ≤ SMALL := by unfold SMALL; omega
  unfold z83 datB
  rw [z9s _ hs, zB, zb9 _ hs, zB, if_pos hd, z6t, zB, z8z, zB, z0m.2 hn, if_pos rfl]
  by_cases h : 0 ≤ v
  · rw [if_pos (z0m.2 ⟨h, hv.2⟩), z16 data h (by omega), if_pos h]; rfl
  · rw [if_neg (fun e => h (z0m.1 e).1), if_neg h]
theorem law_FnCasWork (code : List Int) (hl : code.length ≤ 9223372036854775807) (hb : ∀ y ∈ code, 0 ≤ y ∧ y ≤ 255) : z7j code = some true := by
  unfold z7j
  by_cases hz : 1048576 < (code.length : Int)
  · rw [if_pos (zT hz)]
  rw [if_neg (by simpa using hz)]
  obtain ⟨⟨n, c, k, v, num⟩, e, hn, hc⟩ := drawCasWork code hb
  dsimp only at hn hc
  have sn := hn.small
  have sc := hc.small (by omega)
  have hcd := hc.did
  have hcb := hc.busy
  rw [e, zB]
  dsimp only
  have sx := (y6n n c k v num).small sc
  rw [yk8 n c k v num sn sc, zB, zq1 n c k v num sn sc, zB, w1t _ _ sx, zB, if_pos (by simp), if_pos (by simp)]
  by_cases h : (workB n c k v num).2 = true
  case neg =>
    rw [yt9 h]
    dsimp only
    rw [if_neg (by simp), w1t _ _ sc, zB, if_pos (by simp), gu_Ok, zB]
  rw [if_pos h]
  obtain ⟨W, R⟩ := w0j h
  have hok := w59 (k := k) (v := v) (num := num) W.cas
  generalize (workB n c k v num).1 = x at R hok sx
  have F := z8f W.cas
  have hm := z4a c.busy W.k0 W.k1
  have hB := F.busy _ hm
  have hgt := z16 n.tasks hB.1.1 hB.1.2
  have hneed := y5o F.net (z4a n.tasks hB.1.1 hB.1.2)
  have sdat : (datB c.data v num).length ≤ SMALL := by rw [zz7]; exact sc.2.2.1
  rw [z16 c.busy W.k0 W.k1, zB, yr0 F.data W.v W.num, zB, z02 (by constructor <;> omega), hgt, zB]
  cases R with
  | more hd =>
    have hset : getI (c.busy.set k.toNat (itD (atI c.busy k))) k = some (itD (atI c.busy k)) := by
      rw [z16 _ W.k0 (by rw [zS]; exact W.k1), w5w _ _ W.k0 W.k0 W.k1, if_pos rfl]
    rw [if_pos (zT hd), hset, zB, z02 (by constructor <;> omega), if_pos (by simp [itD]), if_pos (by simp), y1k _ _ sc.1, zB, if_pos (by simp), y1k _ _ sdat, zB, if_pos (by simp), w5j _ _ sc.2.2.2, zB, if_pos (by simp), zs4 n _ sn sx, zB, hok]
  | ends hd G hp =>
    have hgl : getI (giveL n c.marks (atI n.tasks (atI c.busy k).task) (datB c.data v num)) 1 = some (atI (giveL n c.marks (atI n.tasks (atI c.busy k).task) (datB c.data v num)) 1) := y4c (y5c G)
    rw [if_neg (by simpa using hd), zn7 n c.marks _ _ sn sc.1 sdat, zB, y0b G]
    dsimp only
    rw [hgl, zB, if_pos rfl, y1k _ _ (by rw [y0c]; exact sc.1), zB, if_pos (by simp), z02 (by constructor <;> omega), if_pos (by simp)]
    have hgd : getI (c.did ++ [GDid.mk (atI c.busy k).task (atI c.busy k).who]) (c.did.length : Int) = some (GDid.mk (atI c.busy k).task (atI c.busy k).who) := by rw [z5n]; simp
    rw [hgd, zB, if_pos (by simp), zT hp, if_pos (by simp), if_pos rfl, if_pos (by simp), zs4 n _ sn sx, zB, hok]
  | goes hd G hp =>
    have hgl : getI (giveL n c.marks (atI n.tasks (atI c.busy k).task) (datB c.data v num)) 1 = some (atI (giveL n c.marks (atI n.tasks (atI c.busy k).task) (datB c.data v num)) 1) := y4c (y5c G)
    rw [if_neg (by simpa using hd), zn7 n c.marks _ _ sn sc.1 sdat, zB, y0b G]
    dsimp only
    rw [hgl, zB, if_pos rfl, y1k _ _ (by rw [y0c]; exact sc.1), zB, if_pos (by simp), z02 (by constructor <;> omega), if_pos (by simp)]
    have hgd : getI (c.did ++ [GDid.mk (atI c.busy k).task (atI c.busy k).who]) (c.did.length : Int) = some (GDid.mk (atI c.busy k).task (atI c.busy k).who) := by rw [z5n]; simp
    have hst : ¬ c.state = 2 := by have := W.run; omega
    have k1 := W.k1
    have k0 := W.k0
    rw [hgd, zB, if_pos (by simp), decide_eq_false hp, if_pos (by simp [hst]), if_neg (by simp), z02 (by constructor <;> omega), if_pos (by rw [zE, zL, List.length_take, List.length_drop]; omega), zs4 n _ sn sx, zB, hok]
end Go.Am.Pl
end
