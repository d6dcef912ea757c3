/- The sections that come in, as the law's walk reads them. -/
import Derived.Test.YtljmikfpknmnnaaDoorXSx0
import Derived.Test.YtljmikfpknmnnaaDoorOpen
namespace Go.Proofs.YtljmikfpknmnnaaDoor.XS
open Go Go.RowKit Go.Proofs.YtljmikfpknmnnaaDoorW.PrintWords Go.Proofs.YtljmikfpknmnnaaDoor.Op
set_option linter.unusedVariables false
instance : Inhabited S52 := ⟨z52⟩
theorem opens52 : Opens Tryd.prog 44 (Kd.slice 52 k52) (fun l => ∀ x ∈ l, (Lit.int .u8 x.f0).wf = true ∧ (Lit.int .i64 x.f1).wf = true ∧ ∀ y ∈ x.f2, (Lit.int .u8 y).wf = true) :=
  opens_slice Tryd.underlying44 (by kernel_rfl) (opens_struct (fun x : S52 => (x.f0, x.f1, x.f2)) (fun t => ⟨t.1, t.2.1, t.2.2⟩) (fun _ => rfl) Tryd.underlying52 (by kernel_rfl)
    (fields_cons rfl (by kernel_rfl) (opens_int Tryd.underlying5) (fields_cons rfl (by kernel_rfl) (opens_int Tryd.underlying3) (fields_one rfl (by kernel_rfl) (opens_slice Tryd.underlying22 (by kernel_rfl) (opens_int Tryd.underlying5))))))
theorem u8_of_wf {a : Int} (h : (Lit.int .u8 a).wf = true) : 0 ≤ a ∧ a < 256 := by
  simp [Lit.wf, IntKind.min, IntKind.max, IntKind.signed, IntKind.bits] at h
  omega
end Go.Proofs.YtljmikfpknmnnaaDoor.XS
