/- NumExtends. No program. -/
import Derived.Test.YtkpafgnchdohaaaDoorXNx5
import Derived.Test.YtkpafgnchdohaaaDoorNum
namespace Go.Proofs.YtkpafgnchdohaaaDoor.Pure
open Go Go.RowKit Go.Proofs.YtkpafgnchdohaaaDoor.Num Go.Proofs.YtkpafgnchdohaaaDoor.XN Go.Proofs.YtkpafgnchdohaaaDoorW.PrintWords Go.Proofs.YtkpafgnchdohaaaDoorW.PrintLast

theorem ext_one (k : Nat) (x : Int) : num_One.f (k + 4) 167 x = some (x % 4294967296, none) ∧ num_One.f (k + 4) 173 x = some (x % 4294967296, none) ∧
    num_One.f (k + 4) 172 x = some (IntKind.u64.wrap (wrap64 (wrap32 x)), none) ∧ num_One.f (k + 4) 69 x = some (if x % 4294967296 = 0 then 1 else 0, none) ∧ num_One.f (k + 4) 80 x = some (if x = 0 then 1 else 0, none) := by
  refine ⟨?_, ?_, ?_, ?_, ?_⟩
  · simp [num_One.f, num_One.j0, num_One.j1, num_One.j2, num_wide_low.f]
  · simp [num_One.f, num_One.j0, num_One.j1, num_One.j2, num_wide_low.f]
  · simp [num_One.f, num_One.j0, num_One.j1, num_One.j2, num_wide_signed.f]
  · simp [num_One.f, num_wide_low.f, num_is.f]
    by_cases h2 : x % 4294967296 = 0 <;> simp [h2]
  · simp [num_One.f, num_is.f]
    by_cases h2 : x = 0 <;> simp [h2]
theorem NumExtends : mandrellaw02_NumExtends.Pure := by
  intro x hx
  have hx := wf_u64 hx
  refine ⟨100, ?_⟩
  unfold mandrellaw02_NumExtends.f
  obtain ⟨h1, _, _, h4, h5⟩ := ext_one 96 x
  obtain ⟨_, g2, g3, _, _⟩ := ext_one 96 (x % 4294967296)
  have e1 : wrap64 (IntKind.u64.wrap (wrap64 (wrap32 (x % 4294967296)))) = wrap64 (wrap32 (x % 4294967296)) := by
    rw [u64w]; unfold wrap64 wrap32; omega
  rw [h1]
  simp only [Option.bind_some]
  rw [g3, g2, h4, h5, sure 100 (by omega)]
  simp only [Option.bind_some, Option.isNone_none, if_true]
  rw [e1, Int.tmod_eq_emod_of_nonneg hx.1, if_pos rfl, if_pos (Int.emod_emod_of_dvd x (Int.dvd_refl _))]
  by_cases h1 : x % 4294967296 = 0 <;> by_cases h2 : x = 0 <;> simp [h1, h2]
end Go.Proofs.YtkpafgnchdohaaaDoor.Pure
