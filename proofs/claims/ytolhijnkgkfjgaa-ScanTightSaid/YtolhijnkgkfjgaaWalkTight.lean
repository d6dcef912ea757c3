/- ScanTight: what comes in, and its walk. -/
import Derived.Test.YtolhijnkgkfjgaaPureScanTight
import Derived.Test.YtolhijnkgkfjgaaOpen
namespace Go.Proofs.Ytolhijnkgkfjgaa.XC
open Go Go.RowKit Go.Proofs.YtolhijnkgkfjgaaW.PrintWords Go.Proofs.Ytolhijnkgkfjgaa.Op
set_option linter.unusedVariables false
instance : Inhabited Sp0 := ⟨z43⟩
instance : Inhabited Rg0 := ⟨z81⟩
theorem opensS : Opens Try.prog 37 (Kd.slice 43 k43) (fun l => ∀ x ∈ l, (∀ y ∈ x.f0, (Lit.int .i64 y.f0).wf = true ∧ (Lit.int .i64 y.f1).wf = true) ∧ (Lit.int .i64 x.f1).wf = true) :=
  opens_slice Try.underlying37 (by kernel_rfl) (opens_struct (fun x : Sp0 => (x.f0, x.f1)) (fun t => ⟨t.1, t.2⟩) (fun _ => rfl) Try.underlying43 (by kernel_rfl)
    (fields_cons rfl (by kernel_rfl) (opens_slice Try.underlying41 (by kernel_rfl) (opens_struct (fun x : Rg0 => (x.f0, x.f1)) (fun t => ⟨t.1, t.2⟩) (fun _ => rfl) Try.underlying81 (by kernel_rfl)
      (fields_cons rfl (by kernel_rfl) (opens_int Try.underlying3) (fields_one rfl (by kernel_rfl) (opens_int Try.underlying3))))) (fields_one rfl (by kernel_rfl) (opens_int Try.underlying3))))
theorem scanTightWalk (A0 : Option Addr) (c0 : Nat) (l0 : List Sp0) (a1 : Int) (w : World) (hr0 : Kd.C k43 w A0 l0.length l0) (hc0 : l0.length ≤ c0) (g0 : ∀ x ∈ l0, (∀ y ∈ x.f0, (Lit.int .i64 y.f0).wf = true ∧ (Lit.int .i64 y.f1).wf = true) ∧ (Lit.int .i64 x.f1).wf = true) (w1 : (Lit.int .i64 a1).wf = true) :
    Calls Try.prog 4 #[.slice A0 l0.length c0, .int .i64 a1] w fun e w' => e = .returned (.bool true) ∧ Below w.heap.size w w' := by
  obtain ⟨k, hk⟩ := scanTight_law l0 a1
  exact mandrellaw19_ScanTight.calls k A0 c0 l0 a1 true w hr0 hc0 hk
end Go.Proofs.Ytolhijnkgkfjgaa.XC
