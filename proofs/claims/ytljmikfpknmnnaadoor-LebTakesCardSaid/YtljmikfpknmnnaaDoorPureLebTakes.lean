/- LebTakes: the program's takes and the reference's tell the same, whatever the bytes and the width. No program. -/
import Derived.Test.YtljmikfpknmnnaaDoorXSx3
import Derived.Test.YtljmikfpknmnnaaDoorLebRef
namespace Go.Proofs.YtljmikfpknmnnaaDoor.Pure
open Go Go.RowKit Go.Proofs.YtljmikfpknmnnaaDoor.M Go.Proofs.YtljmikfpknmnnaaDoor.Leb Go.Proofs.YtljmikfpknmnnaaDoor.XS Go.Proofs.YtljmikfpknmnnaaDoorW.PrintWords Go.Proofs.YtljmikfpknmnnaaDoorW.PrintLast

theorem lt_bytes {l : List Int} (h : ∀ x ∈ l, (Lit.int .u8 x).wf = true) : ∀ x ∈ l, 0 ≤ x ∧ x < 256 := by
  intro x hx
  have := h x hx
  simp [Lit.wf, IntKind.min, IntKind.max, IntKind.signed, IntKind.bits] at this
  omega
theorem lt_num (e : Option Int) : mandrellaw01_num.f e = some (e.getD 0) := by
  cases e <;> rfl
theorem LebTakes : mandrellaw01_LebTakes.Pure := by
  intro b n hb1 hb2 hb3 hw
  have hb := lt_bytes hb3
  refine ⟨b.length + 300, ?_⟩
  unfold mandrellaw01_LebTakes.f
  rw [sure _ (by omega)]
  by_cases h : n < 1 ∨ 64 < n
  · rw [takeU_bad b n _ h, takeS_bad b n _ h, refU_bad b n _ h (by omega), refS_bad b n _ h (by omega)]
    simp [lt_num]
  · obtain ⟨w, rfl⟩ : ∃ w : Nat, n = (w : Int) := ⟨n.toNat, by omega⟩
    rw [takeU b w _ (by omega) (by omega) (by omega) hb (by omega), takeS b w _ (by omega) (by omega) (by omega) hb (by omega), refU_take b w _ (by omega) (by omega) hb (by omega), refS_take b w _ (by omega) (by omega) hb (by omega)]
    simp [lt_num, told]
end Go.Proofs.YtljmikfpknmnnaaDoor.Pure
