/- Facts of the seat's types. Printed by consts.py. Own work. -/
import Derived.Test.YtcbpckbehdaloaaAmQ
import Derived.Test.YtcbpckbehdaloaaProg
import Derived.KernelRfl
set_option linter.unusedSimpArgs false
set_option linter.unusedVariables false
namespace Go.Am
open Go Go.Proofs

theorem mixed : Try.prog.follows .mixedOrders = true := by kernel_rfl
theorem elem34 : ElemTy Try.prog 34 3 Try.t3.size Try.t3.bytes := ⟨Try.underlying34, ⟨Try.t3, _, by kernel_rfl, rfl, rfl, rfl, rfl⟩, by decide⟩
theorem zero34 : ∀ i z, Try.prog.info? 3 = some i → i.zero = some z → z.cells.toList = (Try.t3.zero.getD undef).cells.toList := by intro i z h1 h2; have h3 : Try.prog.info? 3 = some Try.t3 := (by kernel_rfl); rw [h3] at h1; cases h1; rw [h2]; rfl
theorem elem158 : ElemTy Try.prog 158 186 Try.t186.size Try.t186.bytes := ⟨Try.underlying158, ⟨Try.t186, _, by kernel_rfl, rfl, rfl, rfl, rfl⟩, by decide⟩
theorem zero158 : ∀ i z, Try.prog.info? 186 = some i → i.zero = some z → z.cells.toList = (Try.t186.zero.getD undef).cells.toList := by intro i z h1 h2; have h3 : Try.prog.info? 186 = some Try.t186 := (by kernel_rfl); rw [h3] at h1; cases h1; rw [h2]; rfl
theorem elem52 : ElemTy Try.prog 52 160 Try.t160.size Try.t160.bytes := ⟨Try.underlying52, ⟨Try.t160, _, by kernel_rfl, rfl, rfl, rfl, rfl⟩, by decide⟩
theorem zero52 : ∀ i z, Try.prog.info? 160 = some i → i.zero = some z → z.cells.toList = (Try.t160.zero.getD undef).cells.toList := by intro i z h1 h2; have h3 : Try.prog.info? 160 = some Try.t160 := (by kernel_rfl); rw [h3] at h1; cases h1; rw [h2]; rfl
theorem elem33 : ElemTy Try.prog 33 54 Try.t54.size Try.t54.bytes := ⟨Try.underlying33, ⟨Try.t54, _, by kernel_rfl, rfl, rfl, rfl, rfl⟩, by decide⟩
theorem zero33 : ∀ i z, Try.prog.info? 54 = some i → i.zero = some z → z.cells.toList = (Try.t54.zero.getD undef).cells.toList := by intro i z h1 h2; have h3 : Try.prog.info? 54 = some Try.t54 := (by kernel_rfl); rw [h3] at h1; cases h1; rw [h2]; rfl
theorem elem55 : ElemTy Try.prog 55 165 Try.t165.size Try.t165.bytes := ⟨Try.underlying55, ⟨Try.t165, _, by kernel_rfl, rfl, rfl, rfl, rfl⟩, by decide⟩
theorem zero55 : ∀ i z, Try.prog.info? 165 = some i → i.zero = some z → z.cells.toList = (Try.t165.zero.getD undef).cells.toList := by intro i z h1 h2; have h3 : Try.prog.info? 165 = some Try.t165 := (by kernel_rfl); rw [h3] at h1; cases h1; rw [h2]; rfl
theorem elem56 : ElemTy Try.prog 56 167 Try.t167.size Try.t167.bytes := ⟨Try.underlying56, ⟨Try.t167, _, by kernel_rfl, rfl, rfl, rfl, rfl⟩, by decide⟩
theorem zero56 : ∀ i z, Try.prog.info? 167 = some i → i.zero = some z → z.cells.toList = (Try.t167.zero.getD undef).cells.toList := by intro i z h1 h2; have h3 : Try.prog.info? 167 = some Try.t167 := (by kernel_rfl); rw [h3] at h1; cases h1; rw [h2]; rfl
theorem elem35 : ElemTy Try.prog 35 147 Try.t147.size Try.t147.bytes := ⟨Try.underlying35, ⟨Try.t147, _, by kernel_rfl, rfl, rfl, rfl, rfl⟩, by decide⟩
theorem zero35 : ∀ i z, Try.prog.info? 147 = some i → i.zero = some z → z.cells.toList = (Try.t147.zero.getD undef).cells.toList := by intro i z h1 h2; have h3 : Try.prog.info? 147 = some Try.t147 := (by kernel_rfl); rw [h3] at h1; cases h1; rw [h2]; rfl
theorem elem36 : ElemTy Try.prog 36 150 Try.t150.size Try.t150.bytes := ⟨Try.underlying36, ⟨Try.t150, _, by kernel_rfl, rfl, rfl, rfl, rfl⟩, by decide⟩
theorem zero36 : ∀ i z, Try.prog.info? 150 = some i → i.zero = some z → z.cells.toList = (Try.t150.zero.getD undef).cells.toList := by intro i z h1 h2; have h3 : Try.prog.info? 150 = some Try.t150 := (by kernel_rfl); rw [h3] at h1; cases h1; rw [h2]; rfl
theorem elem22 : ElemTy Try.prog 22 87 Try.t87.size Try.t87.bytes := ⟨Try.underlying22, ⟨Try.t87, _, by kernel_rfl, rfl, rfl, rfl, rfl⟩, by decide⟩
theorem zero22 : ∀ i z, Try.prog.info? 87 = some i → i.zero = some z → z.cells.toList = (Try.t87.zero.getD undef).cells.toList := by intro i z h1 h2; have h3 : Try.prog.info? 87 = some Try.t87 := (by kernel_rfl); rw [h3] at h1; cases h1; rw [h2]; rfl
theorem elem117 : ElemTy Try.prog 117 181 Try.t181.size Try.t181.bytes := ⟨Try.underlying117, ⟨Try.t181, _, by kernel_rfl, rfl, rfl, rfl, rfl⟩, by decide⟩
theorem zero117 : ∀ i z, Try.prog.info? 181 = some i → i.zero = some z → z.cells.toList = (Try.t181.zero.getD undef).cells.toList := by intro i z h1 h2; have h3 : Try.prog.info? 181 = some Try.t181 := (by kernel_rfl); rw [h3] at h1; cases h1; rw [h2]; rfl
theorem elem63 : ElemTy Try.prog 63 119 Try.t119.size Try.t119.bytes := ⟨Try.underlying63, ⟨Try.t119, _, by kernel_rfl, rfl, rfl, rfl, rfl⟩, by decide⟩
theorem zero63 : ∀ i z, Try.prog.info? 119 = some i → i.zero = some z → z.cells.toList = (Try.t119.zero.getD undef).cells.toList := by intro i z h1 h2; have h3 : Try.prog.info? 119 = some Try.t119 := (by kernel_rfl); rw [h3] at h1; cases h1; rw [h2]; rfl
theorem elem41 : ElemTy Try.prog 41 65 Try.t65.size Try.t65.bytes := ⟨Try.underlying41, ⟨Try.t65, _, by kernel_rfl, rfl, rfl, rfl, rfl⟩, by decide⟩
theorem zero41 : ∀ i z, Try.prog.info? 65 = some i → i.zero = some z → z.cells.toList = (Try.t65.zero.getD undef).cells.toList := by intro i z h1 h2; have h3 : Try.prog.info? 65 = some Try.t65 := (by kernel_rfl); rw [h3] at h1; cases h1; rw [h2]; rfl
theorem elem67 : ElemTy Try.prog 67 121 Try.t121.size Try.t121.bytes := ⟨Try.underlying67, ⟨Try.t121, _, by kernel_rfl, rfl, rfl, rfl, rfl⟩, by decide⟩
theorem zero67 : ∀ i z, Try.prog.info? 121 = some i → i.zero = some z → z.cells.toList = (Try.t121.zero.getD undef).cells.toList := by intro i z h1 h2; have h3 : Try.prog.info? 121 = some Try.t121 := (by kernel_rfl); rw [h3] at h1; cases h1; rw [h2]; rfl
theorem elem68 : ElemTy Try.prog 68 137 Try.t137.size Try.t137.bytes := ⟨Try.underlying68, ⟨Try.t137, _, by kernel_rfl, rfl, rfl, rfl, rfl⟩, by decide⟩
theorem zero68 : ∀ i z, Try.prog.info? 137 = some i → i.zero = some z → z.cells.toList = (Try.t137.zero.getD undef).cells.toList := by intro i z h1 h2; have h3 : Try.prog.info? 137 = some Try.t137 := (by kernel_rfl); rw [h3] at h1; cases h1; rw [h2]; rfl
theorem elem42 : ElemTy Try.prog 42 152 Try.t152.size Try.t152.bytes := ⟨Try.underlying42, ⟨Try.t152, _, by kernel_rfl, rfl, rfl, rfl, rfl⟩, by decide⟩
theorem zero42 : ∀ i z, Try.prog.info? 152 = some i → i.zero = some z → z.cells.toList = (Try.t152.zero.getD undef).cells.toList := by intro i z h1 h2; have h3 : Try.prog.info? 152 = some Try.t152 := (by kernel_rfl); rw [h3] at h1; cases h1; rw [h2]; rfl
theorem elem43 : ElemTy Try.prog 43 102 Try.t102.size Try.t102.bytes := ⟨Try.underlying43, ⟨Try.t102, _, by kernel_rfl, rfl, rfl, rfl, rfl⟩, by decide⟩
theorem zero43 : ∀ i z, Try.prog.info? 102 = some i → i.zero = some z → z.cells.toList = (Try.t102.zero.getD undef).cells.toList := by intro i z h1 h2; have h3 : Try.prog.info? 102 = some Try.t102 := (by kernel_rfl); rw [h3] at h1; cases h1; rw [h2]; rfl
theorem elem25 : ElemTy Try.prog 25 90 Try.t90.size Try.t90.bytes := ⟨Try.underlying25, ⟨Try.t90, _, by kernel_rfl, rfl, rfl, rfl, rfl⟩, by decide⟩
theorem zero25 : ∀ i z, Try.prog.info? 90 = some i → i.zero = some z → z.cells.toList = (Try.t90.zero.getD undef).cells.toList := by intro i z h1 h2; have h3 : Try.prog.info? 90 = some Try.t90 := (by kernel_rfl); rw [h3] at h1; cases h1; rw [h2]; rfl
end Go.Am
