/- ScanAssigns: what comes in, and its walk. -/
import Derived.Test.YtolhijnkgkfjgaaDoorPureScanAssigns
import Derived.Test.YtolhijnkgkfjgaaDoorOpen
namespace Go.Proofs.YtolhijnkgkfjgaaDoor.XC
open Go Go.RowKit Go.Proofs.YtolhijnkgkfjgaaDoorW.PrintWords Go.Proofs.YtolhijnkgkfjgaaDoor.Op
set_option linter.unusedVariables false
instance : Inhabited Sp0 := ⟨z37⟩
instance : Inhabited Rg0 := ⟨z66⟩
theorem opensS : Opens Tryd.prog 22 (Kd.slice 37 k37) (fun l => ∀ x ∈ l, (∀ y ∈ x.f0, (Lit.int .i64 y.f0).wf = true ∧ (Lit.int .i64 y.f1).wf = true) ∧ (Lit.int .i64 x.f1).wf = true) :=
  opens_slice Tryd.underlying22 (by kernel_rfl) (opens_struct (fun x : Sp0 => (x.f0, x.f1)) (fun t => ⟨t.1, t.2⟩) (fun _ => rfl) Tryd.underlying37 (by kernel_rfl)
    (fields_cons rfl (by kernel_rfl) (opens_slice Tryd.underlying35 (by kernel_rfl) (opens_struct (fun x : Rg0 => (x.f0, x.f1)) (fun t => ⟨t.1, t.2⟩) (fun _ => rfl) Tryd.underlying66 (by kernel_rfl)
      (fields_cons rfl (by kernel_rfl) (opens_int Tryd.underlying3) (fields_one rfl (by kernel_rfl) (opens_int Tryd.underlying3))))) (fields_one rfl (by kernel_rfl) (opens_int Tryd.underlying3))))
theorem scanAssignsWalk (A0 : Option Addr) (c0 : Nat) (l0 : List Sp0) (a1 : Int) (w : World) (hr0 : Kd.C k37 w A0 l0.length l0) (hc0 : l0.length ≤ c0) (g0 : ∀ x ∈ l0, (∀ y ∈ x.f0, (Lit.int .i64 y.f0).wf = true ∧ (Lit.int .i64 y.f1).wf = true) ∧ (Lit.int .i64 x.f1).wf = true) (w1 : (Lit.int .i64 a1).wf = true) (hLE : LaidE w) :
    Calls Tryd.prog 3 #[.slice A0 l0.length c0, .int .i64 a1] w fun e w' => e = .returned (.bool true) ∧ Below w.heap.size w w' := by
  obtain ⟨k, hk⟩ := scanAssigns_law l0 a1
  exact mandrellaw19_ScanAssigns.calls k A0 c0 l0 a1 true w hr0 hc0 hLE hk
end Go.Proofs.YtolhijnkgkfjgaaDoor.XC
