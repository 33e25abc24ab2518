/- Plain laws: how many marks there are, by the weights. Own work. -/
import Derived.Test.YtcbpckbehdaloaaCsPQ
import Derived.Test.YtcbpckbehdaloaaAmV
set_option maxRecDepth 100000
set_option linter.unusedVariables false
set_option linter.unusedSimpArgs false
namespace Go.Am.Pl
open Go

theorem cntS_le {α : Type} {cnt W : α → Nat} {K : Nat} : ∀ {l : List α}, (∀ x ∈ l, cnt x ≤ K + K * W x) → cntS cnt l ≤ K * (l.length + sumW W l)
  | [], _ => by simp [cntS]
  | x :: l, h => by
    have h1 := cntS_le (l := l) fun y hy => h y (by simp [hy])
    have h2 := h x (by simp)
    simp only [cntS, List.length_cons]
    have : sumW W (x :: l) = W x + sumW W l := by simp [sumW]
    rw [this]
    have : K * (l.length + 1 + (W x + sumW W l)) = K * (l.length + sumW W l) + (K + K * W x) := by simp only [Nat.mul_add, Nat.mul_one]; omega
    omega
theorem cntS_const {α : Type} {cnt : α → Nat} {K : Nat} (h : ∀ x, cnt x = K) : ∀ l : List α, cntS cnt l = K * l.length
  | [] => rfl
  | x :: l => by simp only [cntS, h, cntS_const h l, List.length_cons, Nat.mul_add]; omega
theorem cIntS (l : List Int) : cntS cI1 l = 1 * l.length := cntS_const (fun _ => rfl) l
theorem cItemS (l : List GItem) : cntS cGItem l = 3 * l.length := cntS_const (fun _ => rfl) l
theorem cDidS (l : List GDid) : cntS cGDid l = 2 * l.length := cntS_const (fun _ => rfl) l
theorem cFlowS (l : List GFlow) : cntS cGFlow l = 4 * l.length := cntS_const (fun _ => rfl) l
theorem cTask_le (x : GTask) : cGTask x ≤ 10 + 10 * GTask.W x := by
  unfold cGTask; rw [cIntS, cIntS, cFlowS]; simp only [GTask.W]; omega
theorem vNet_le (x : GNet) : vGNet x ≤ 10 * GNet.W x := by
  unfold vGNet
  have := cntS_le (cnt := cGTask) (W := GTask.W) (K := 10) (l := x.tasks) fun t _ => cTask_le t
  simp only [GNet.W]; omega
theorem vCase_le (x : GCase) : vGCase x ≤ 10 * GCase.W x := by
  unfold vGCase; rw [cIntS, cIntS, cItemS, cDidS]; simp only [GCase.W]; omega

end Go.Am.Pl
