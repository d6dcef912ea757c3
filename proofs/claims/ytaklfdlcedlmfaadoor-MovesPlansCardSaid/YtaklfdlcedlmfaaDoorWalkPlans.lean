/- MovesPlans: what comes in, and its walk. -/
import Derived.Test.YtaklfdlcedlmfaaDoorPureMovesPlans
import Derived.Test.YtaklfdlcedlmfaaDoorOpen
namespace Go.Proofs.YtaklfdlcedlmfaaDoor.XM
open Go Go.RowKit Go.Proofs.YtaklfdlcedlmfaaDoorW.PrintWords Go.Proofs.YtaklfdlcedlmfaaDoor.Op
set_option linter.unusedVariables false
instance : Inhabited Rv := ⟨z32⟩
theorem opensR : Opens Tryd.prog 22 (Kd.slice 32 k32) (fun l => ∀ x ∈ l, (Lit.int .i64 x.f0).wf = true ∧ (Lit.int .i64 x.f1).wf = true) :=
  opens_slice Tryd.underlying22 (by kernel_rfl) (opens_struct (fun x : Rv => (x.f0, x.f1)) (fun t => ⟨t.1, t.2⟩) (fun _ => rfl) Tryd.underlying32 (by kernel_rfl)
    (fields_cons rfl (by kernel_rfl) (opens_int Tryd.underlying3) (fields_one rfl (by kernel_rfl) (opens_int Tryd.underlying3))))
theorem movesPlansWalk (A0 : Option Addr) (c0 : Nat) (l0 : List Rv) (a1 : Int) (w : World) (hr0 : Kd.C k32 w A0 l0.length l0) (hc0 : l0.length ≤ c0) (g0 : ∀ x ∈ l0, (Lit.int .i64 x.f0).wf = true ∧ (Lit.int .i64 x.f1).wf = true) (w1 : (Lit.int .i64 a1).wf = true) (hLE : LaidE w) :
    Calls Tryd.prog 3 #[.slice A0 l0.length c0, .int .i64 a1] w fun e w' => e = .returned (.bool true) ∧ Below w.heap.size w w' := by
  obtain ⟨k, hk⟩ := movesPlans_law l0 a1
  exact mandrellaw20_MovesPlans.calls k A0 c0 l0 a1 true w hr0 hc0 hLE hk
end Go.Proofs.YtaklfdlcedlmfaaDoor.XM
