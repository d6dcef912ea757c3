/- MovesDo: what comes in, and its walk. -/
import Derived.Test.YtaklfdlcedlmfaaDoorPureMovesDo
import Derived.Test.YtaklfdlcedlmfaaDoorOpen
namespace Go.Proofs.YtaklfdlcedlmfaaDoor.XM
open Go Go.RowKit Go.Proofs.YtaklfdlcedlmfaaDoorW.PrintWords Go.Proofs.YtaklfdlcedlmfaaDoor.Op
set_option linter.unusedVariables false
instance : Inhabited Rv := ⟨z32⟩
theorem opensR : Opens Tryd.prog 22 (Kd.slice 32 k32) (fun l => ∀ x ∈ l, (Lit.int .i64 x.f0).wf = true ∧ (Lit.int .i64 x.f1).wf = true) :=
  opens_slice Tryd.underlying22 (by kernel_rfl) (opens_struct (fun x : Rv => (x.f0, x.f1)) (fun t => ⟨t.1, t.2⟩) (fun _ => rfl) Tryd.underlying32 (by kernel_rfl)
    (fields_cons rfl (by kernel_rfl) (opens_int Tryd.underlying3) (fields_one rfl (by kernel_rfl) (opens_int Tryd.underlying3))))
theorem opensU : Opens Tryd.prog 36 (Kd.slice 37 (Kd.int .u64)) (fun l => ∀ x ∈ l, (Lit.int .u64 x).wf = true) := opens_slice Tryd.underlying36 (by kernel_rfl) (opens_int Tryd.underlying37)
theorem movesDoWalk (A0 : Option Addr) (c0 : Nat) (l0 : List Int) (A1 : Option Addr) (c1 : Nat) (l1 : List Rv) (w : World) (hr0 : Kd.C (Kd.int .u64) w A0 l0.length l0) (hc0 : l0.length ≤ c0) (g0 : ∀ x ∈ l0, (Lit.int .u64 x).wf = true) (hr1 : Kd.C k32 w A1 l1.length l1) (hc1 : l1.length ≤ c1) (g1 : ∀ x ∈ l1, (Lit.int .i64 x.f0).wf = true ∧ (Lit.int .i64 x.f1).wf = true) (hLE : LaidE w) :
    Calls Tryd.prog 4 #[.slice A0 l0.length c0, .slice A1 l1.length c1] w fun e w' => e = .returned (.bool true) ∧ Below w.heap.size w w' := by
  obtain ⟨k, hk⟩ := movesDo_law l0 l1
  exact mandrellaw20_MovesDo.calls k A0 c0 l0 A1 c1 l1 true w hr0 hc0 hr1 hc1 hLE hk
end Go.Proofs.YtaklfdlcedlmfaaDoor.XM
