/- Facts of the seat's types. Printed by consts.py. Own work. -/
import Derived.Test.YtcbpckbehdaloaaGreatAmQ
import Derived.Test.YtcbpckbehdaloaaGreatProg
import Derived.KernelRfl
set_option linter.unusedSimpArgs false
set_option linter.unusedVariables false
namespace Go.Am
open Go Go.Proofs

theorem mixed : Tryz.prog.follows .mixedOrders = true := by kernel_rfl
theorem elem23 : ElemTy Tryz.prog 23 3 Tryz.t3.size Tryz.t3.bytes := ⟨Tryz.underlying23, ⟨Tryz.t3, _, by kernel_rfl, rfl, rfl, rfl, rfl⟩, by decide⟩
theorem zero23 : ∀ i z, Tryz.prog.info? 3 = some i → i.zero = some z → z.cells.toList = (Tryz.t3.zero.getD undef).cells.toList := by intro i z h1 h2; have h3 : Tryz.prog.info? 3 = some Tryz.t3 := (by kernel_rfl); rw [h3] at h1; cases h1; rw [h2]; rfl
theorem elem192 : ElemTy Tryz.prog 192 244 Tryz.t244.size Tryz.t244.bytes := ⟨Tryz.underlying192, ⟨Tryz.t244, _, by kernel_rfl, rfl, rfl, rfl, rfl⟩, by decide⟩
theorem zero192 : ∀ i z, Tryz.prog.info? 244 = some i → i.zero = some z → z.cells.toList = (Tryz.t244.zero.getD undef).cells.toList := by intro i z h1 h2; have h3 : Tryz.prog.info? 244 = some Tryz.t244 := (by kernel_rfl); rw [h3] at h1; cases h1; rw [h2]; rfl
theorem elem64 : ElemTy Tryz.prog 64 194 Tryz.t194.size Tryz.t194.bytes := ⟨Tryz.underlying64, ⟨Tryz.t194, _, by kernel_rfl, rfl, rfl, rfl, rfl⟩, by decide⟩
theorem zero64 : ∀ i z, Tryz.prog.info? 194 = some i → i.zero = some z → z.cells.toList = (Tryz.t194.zero.getD undef).cells.toList := by intro i z h1 h2; have h3 : Tryz.prog.info? 194 = some Tryz.t194 := (by kernel_rfl); rw [h3] at h1; cases h1; rw [h2]; rfl
theorem elem22 : ElemTy Tryz.prog 22 66 Tryz.t66.size Tryz.t66.bytes := ⟨Tryz.underlying22, ⟨Tryz.t66, _, by kernel_rfl, rfl, rfl, rfl, rfl⟩, by decide⟩
theorem zero22 : ∀ i z, Tryz.prog.info? 66 = some i → i.zero = some z → z.cells.toList = (Tryz.t66.zero.getD undef).cells.toList := by intro i z h1 h2; have h3 : Tryz.prog.info? 66 = some Tryz.t66 := (by kernel_rfl); rw [h3] at h1; cases h1; rw [h2]; rfl
theorem elem67 : ElemTy Tryz.prog 67 199 Tryz.t199.size Tryz.t199.bytes := ⟨Tryz.underlying67, ⟨Tryz.t199, _, by kernel_rfl, rfl, rfl, rfl, rfl⟩, by decide⟩
theorem zero67 : ∀ i z, Tryz.prog.info? 199 = some i → i.zero = some z → z.cells.toList = (Tryz.t199.zero.getD undef).cells.toList := by intro i z h1 h2; have h3 : Tryz.prog.info? 199 = some Tryz.t199 := (by kernel_rfl); rw [h3] at h1; cases h1; rw [h2]; rfl
theorem elem68 : ElemTy Tryz.prog 68 201 Tryz.t201.size Tryz.t201.bytes := ⟨Tryz.underlying68, ⟨Tryz.t201, _, by kernel_rfl, rfl, rfl, rfl, rfl⟩, by decide⟩
theorem zero68 : ∀ i z, Tryz.prog.info? 201 = some i → i.zero = some z → z.cells.toList = (Tryz.t201.zero.getD undef).cells.toList := by intro i z h1 h2; have h3 : Tryz.prog.info? 201 = some Tryz.t201 := (by kernel_rfl); rw [h3] at h1; cases h1; rw [h2]; rfl
theorem elem24 : ElemTy Tryz.prog 24 157 Tryz.t157.size Tryz.t157.bytes := ⟨Tryz.underlying24, ⟨Tryz.t157, _, by kernel_rfl, rfl, rfl, rfl, rfl⟩, by decide⟩
theorem zero24 : ∀ i z, Tryz.prog.info? 157 = some i → i.zero = some z → z.cells.toList = (Tryz.t157.zero.getD undef).cells.toList := by intro i z h1 h2; have h3 : Tryz.prog.info? 157 = some Tryz.t157 := (by kernel_rfl); rw [h3] at h1; cases h1; rw [h2]; rfl
theorem elem25 : ElemTy Tryz.prog 25 160 Tryz.t160.size Tryz.t160.bytes := ⟨Tryz.underlying25, ⟨Tryz.t160, _, by kernel_rfl, rfl, rfl, rfl, rfl⟩, by decide⟩
theorem zero25 : ∀ i z, Tryz.prog.info? 160 = some i → i.zero = some z → z.cells.toList = (Tryz.t160.zero.getD undef).cells.toList := by intro i z h1 h2; have h3 : Tryz.prog.info? 160 = some Tryz.t160 := (by kernel_rfl); rw [h3] at h1; cases h1; rw [h2]; rfl
theorem elem51 : ElemTy Tryz.prog 51 31 Tryz.t31.size Tryz.t31.bytes := ⟨Tryz.underlying51, ⟨Tryz.t31, _, by kernel_rfl, rfl, rfl, rfl, rfl⟩, by decide⟩
theorem zero51 : ∀ i z, Tryz.prog.info? 31 = some i → i.zero = some z → z.cells.toList = (Tryz.t31.zero.getD undef).cells.toList := by intro i z h1 h2; have h3 : Tryz.prog.info? 31 = some Tryz.t31 := (by kernel_rfl); rw [h3] at h1; cases h1; rw [h2]; rfl
theorem elem185 : ElemTy Tryz.prog 185 234 Tryz.t234.size Tryz.t234.bytes := ⟨Tryz.underlying185, ⟨Tryz.t234, _, by kernel_rfl, rfl, rfl, rfl, rfl⟩, by decide⟩
theorem zero185 : ∀ i z, Tryz.prog.info? 234 = some i → i.zero = some z → z.cells.toList = (Tryz.t234.zero.getD undef).cells.toList := by intro i z h1 h2; have h3 : Tryz.prog.info? 234 = some Tryz.t234 := (by kernel_rfl); rw [h3] at h1; cases h1; rw [h2]; rfl
theorem elem79 : ElemTy Tryz.prog 79 187 Tryz.t187.size Tryz.t187.bytes := ⟨Tryz.underlying79, ⟨Tryz.t187, _, by kernel_rfl, rfl, rfl, rfl, rfl⟩, by decide⟩
theorem zero79 : ∀ i z, Tryz.prog.info? 187 = some i → i.zero = some z → z.cells.toList = (Tryz.t187.zero.getD undef).cells.toList := by intro i z h1 h2; have h3 : Tryz.prog.info? 187 = some Tryz.t187 := (by kernel_rfl); rw [h3] at h1; cases h1; rw [h2]; rfl
theorem elem34 : ElemTy Tryz.prog 34 81 Tryz.t81.size Tryz.t81.bytes := ⟨Tryz.underlying34, ⟨Tryz.t81, _, by kernel_rfl, rfl, rfl, rfl, rfl⟩, by decide⟩
theorem zero34 : ∀ i z, Tryz.prog.info? 81 = some i → i.zero = some z → z.cells.toList = (Tryz.t81.zero.getD undef).cells.toList := by intro i z h1 h2; have h3 : Tryz.prog.info? 81 = some Tryz.t81 := (by kernel_rfl); rw [h3] at h1; cases h1; rw [h2]; rfl
theorem elem73 : ElemTy Tryz.prog 73 137 Tryz.t137.size Tryz.t137.bytes := ⟨Tryz.underlying73, ⟨Tryz.t137, _, by kernel_rfl, rfl, rfl, rfl, rfl⟩, by decide⟩
theorem zero73 : ∀ i z, Tryz.prog.info? 137 = some i → i.zero = some z → z.cells.toList = (Tryz.t137.zero.getD undef).cells.toList := by intro i z h1 h2; have h3 : Tryz.prog.info? 137 = some Tryz.t137 := (by kernel_rfl); rw [h3] at h1; cases h1; rw [h2]; rfl
theorem elem74 : ElemTy Tryz.prog 74 154 Tryz.t154.size Tryz.t154.bytes := ⟨Tryz.underlying74, ⟨Tryz.t154, _, by kernel_rfl, rfl, rfl, rfl, rfl⟩, by decide⟩
theorem zero74 : ∀ i z, Tryz.prog.info? 154 = some i → i.zero = some z → z.cells.toList = (Tryz.t154.zero.getD undef).cells.toList := by intro i z h1 h2; have h3 : Tryz.prog.info? 154 = some Tryz.t154 := (by kernel_rfl); rw [h3] at h1; cases h1; rw [h2]; rfl
theorem elem35 : ElemTy Tryz.prog 35 168 Tryz.t168.size Tryz.t168.bytes := ⟨Tryz.underlying35, ⟨Tryz.t168, _, by kernel_rfl, rfl, rfl, rfl, rfl⟩, by decide⟩
theorem zero35 : ∀ i z, Tryz.prog.info? 168 = some i → i.zero = some z → z.cells.toList = (Tryz.t168.zero.getD undef).cells.toList := by intro i z h1 h2; have h3 : Tryz.prog.info? 168 = some Tryz.t168 := (by kernel_rfl); rw [h3] at h1; cases h1; rw [h2]; rfl
theorem elem36 : ElemTy Tryz.prog 36 124 Tryz.t124.size Tryz.t124.bytes := ⟨Tryz.underlying36, ⟨Tryz.t124, _, by kernel_rfl, rfl, rfl, rfl, rfl⟩, by decide⟩
theorem zero36 : ∀ i z, Tryz.prog.info? 124 = some i → i.zero = some z → z.cells.toList = (Tryz.t124.zero.getD undef).cells.toList := by intro i z h1 h2; have h3 : Tryz.prog.info? 124 = some Tryz.t124 := (by kernel_rfl); rw [h3] at h1; cases h1; rw [h2]; rfl
theorem elem55 : ElemTy Tryz.prog 55 44 Tryz.t44.size Tryz.t44.bytes := ⟨Tryz.underlying55, ⟨Tryz.t44, _, by kernel_rfl, rfl, rfl, rfl, rfl⟩, by decide⟩
theorem zero55 : ∀ i z, Tryz.prog.info? 44 = some i → i.zero = some z → z.cells.toList = (Tryz.t44.zero.getD undef).cells.toList := by intro i z h1 h2; have h3 : Tryz.prog.info? 44 = some Tryz.t44 := (by kernel_rfl); rw [h3] at h1; cases h1; rw [h2]; rfl
end Go.Am
