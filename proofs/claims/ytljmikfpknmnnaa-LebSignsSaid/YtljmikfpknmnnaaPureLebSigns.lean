/- For every int64: the encoding of a number with a sign is as long as that of the one below 0 by one more, and at most one longer than that of the number without a sign. No condition. -/
import Derived.Test.YtljmikfpknmnnaaXLx2
import Derived.Test.YtljmikfpknmnnaaLeb
namespace Go.Proofs.Ytljmikfpknmnnaa.Pure
open Go Go.RowKit Go.Proofs.Ytljmikfpknmnnaa.M Go.Proofs.Ytljmikfpknmnnaa.Leb Go.Proofs.Ytljmikfpknmnnaa.XL Go.Proofs.YtljmikfpknmnnaaW.PrintWords Go.Proofs.YtljmikfpknmnnaaW.PrintLast

theorem len_near : ∀ v : Int, 0 ≤ v → (encU v.toNat).length ≤ (encS v).length ∧ (encS v).length ≤ (encU v.toNat).length + 1 := by
  intro v
  induction v using indS with
  | lo v h0 h1 =>
    intro h
    rw [encS_lo h0 h1, encU_lo (by omega)]
    simp
  | hi v h ih =>
    intro h0
    rw [encS_hi h]
    by_cases h2 : v < 128
    · rw [encU_lo (by omega), encS_lo (by omega) (by omega)]
      simp
    · rw [encU_hi (by omega), show v.toNat / 128 = (v / 128).toNat by omega]
      have := ih (by omega)
      simp only [List.length_cons]
      omega
theorem j0_true (x : Int) (k : Nat) (hk : 50 ≤ k) (h0 : 0 ≤ x) (h1 : x ≤ 9223372036854775807) : mandrellaw01_LebSigns.j0 (k + 1) x = some true := by
  simp only [mandrellaw01_LebSigns.j0]
  have e : wrap64 (wrap64 (-x) - 1) = -x - 1 := by rw [w64_in (x := -x) (by omega) (by omega), w64_in (by omega) (by omega)]
  rw [e, putS x [] k (by omega) (by simp) (by omega) (by omega), putS (-x - 1) [] k (by omega) (by simp) (by omega) (by omega)]
  simp only [Option.bind_some, List.nil_append]
  have hm : (encS x).length = (encS (-x - 1)).length := encS_len_mag _ _ (by unfold mag; rw [if_neg (by omega), if_pos (by omega)]; omega)
  have hp := encS_pos x
  have hn := len_near x h0
  rw [if_pos (by omega), if_pos (by omega), u64w, Int.emod_eq_of_lt h0 (by omega), sizeU x h0 (by omega)]
  simp only [Option.bind_some]
  have h10 := encS_10 (v := x) (by omega) h1
  rw [if_pos (by omega), w64_in (by omega) (by omega), if_pos (by omega), sure k (by omega)]
  rfl
theorem LebSigns : mandrellaw01_LebSigns.Pure := by
  intro a hw
  have hb : -9223372036854775808 ≤ a ∧ a ≤ 9223372036854775807 := by
    simp [Lit.wf, IntKind.min, IntKind.max, IntKind.signed, IntKind.bits] at hw
    omega
  refine ⟨51, ?_⟩
  unfold mandrellaw01_LebSigns.f
  split
  · rw [w64_in (x := a + 1) (by omega) (by omega), w64_in (by omega) (by omega)]
    exact j0_true _ 50 (by omega) (by omega) (by omega)
  · exact j0_true _ 50 (by omega) (by omega) (by omega)
end Go.Proofs.Ytljmikfpknmnnaa.Pure
