/- The law's small thing answers true. No program. -/
import Derived.Test.YtaklfdlcedlmfaaXMx2
import Derived.KernelRfl
namespace Go.Proofs.Ytaklfdlcedlmfaa.XM
open Go.RowKit Mo
def L2 : List Mv := [⟨1, 2⟩, ⟨2, 1⟩]
theorem places2 : placesOf L2 = [1, 2] := by
  unfold placesOf
  rw [show keysOf L2 = [1, 2] by kernel_rfl]
  exact List.mergeSort_of_pairwise (by simp [Sh.leI])
theorem rings2 : ringsOf L2 = [[1, 2]] := by
  unfold ringsOf
  rw [places2]
  kernel_rfl
theorem plan2 : planOf L2 3 = [⟨3, 1⟩, ⟨1, 2⟩, ⟨2, 3⟩] := by
  unfold planOf
  rw [rings2]
  kernel_rfl
theorem f2 : moves_Plan.f L2 3 = some ([⟨3, 1⟩, ⟨1, 2⟩, ⟨2, 3⟩], none) := by
  unfold moves_Plan.f
  rw [if_pos (by decide), if_pos (show mayP L2 3 = true by kernel_rfl), plan2]
theorem sure_ : mandrellaw20_sure.f 100 = some true := by
  unfold mandrellaw20_sure.f
  rw [show ([(⟨1, 2⟩ : S25), (⟨2, 1⟩ : S25)] : List S25) = L2 from rfl, f2]
  kernel_rfl
end Go.Proofs.Ytaklfdlcedlmfaa.XM
