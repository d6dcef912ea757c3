/- NumKinds. No program. -/
import Derived.Test.YtkpafgnchdohaaaDoorXNx10
import Derived.Test.YtkpafgnchdohaaaDoorNum
namespace Go.Proofs.YtkpafgnchdohaaaDoor.Pure
open Go Go.RowKit Go.Proofs.YtkpafgnchdohaaaDoor.Num Go.Proofs.YtkpafgnchdohaaaDoor.XN Go.Proofs.YtkpafgnchdohaaaDoorW.PrintWords Go.Proofs.YtkpafgnchdohaaaDoorW.PrintLast

theorem bit31 (x : Int) (h0 : 0 ≤ x) (h1 : x < 18446744073709551616) : bits .and .u64 (x / 2147483648) 1 = x / 2147483648 % 2 := by
  obtain ⟨n, rfl⟩ : ∃ n : Nat, x = (n : Int) := ⟨x.toNat, by omega⟩
  have h := bits_and_u64_nat (n / 2147483648) 1 (by omega) (by omega)
  rw [Nat.and_one_is_mod] at h
  exact h
theorem NumKinds : mandrellaw02_NumKinds.Pure := by
  intro k x hk hx
  have hx := wf_u64 hx
  refine ⟨100, ?_⟩
  unfold mandrellaw02_NumKinds.f
  by_cases h1 : k = 126
  · subst h1
    have e1 : num_Signed.f 126 x = some (wrap64 x, none) := by
      simp [num_Signed.f, num_of.f, num_wide_signed.f]
    have e2 : num_Value.f 126 (wrap64 x) = some (x, none) := by
      have e : IntKind.u64.wrap (wrap64 x) = x := by rw [u64w]; unfold wrap64; omega
      simp [num_Value.f, num_of.f, num_wide_low.f, e]
    rw [e1, e2, sure _ (by omega)]
    simp
  · by_cases h2 : k = 127
    · subst h2
      have e1 : num_Signed.f 127 x = some (wrap32 x, none) := by
        have e : wrap64 (wrap32 x) = wrap32 x := by unfold wrap64 wrap32; omega
        simp [num_Signed.f, num_of.f, num_wide_signed.f, e]
      have e2 : num_Value.f 127 (wrap64 x) = some (x % 4294967296, none) := by
        have e : IntKind.u64.wrap (wrap64 x) = x := by rw [u64w]; unfold wrap64; omega
        simp [num_Value.f, num_of.f, num_wide_low.f, e]
      have e3 : num_Value.f 127 (wrap32 x) = some (x % 4294967296, none) := by
        have e : IntKind.u64.wrap (wrap32 x) % 4294967296 = x % 4294967296 := by rw [u64w]; unfold wrap32; omega
        simp [num_Value.f, num_of.f, num_wide_low.f, e]
      rw [e1, e2]
      simp only [Option.bind_some]
      rw [e3, sure _ (by omega), and32 x hx.1 hx.2, bit31 x hx.1 hx.2]
      have b1 : wrap32 x ≥ -2147483648 := by unfold wrap32; omega
      have b2 : wrap32 x < 2147483648 := by unfold wrap32; omega
      have b3 : (decide (wrap32 x < 0) == (x / 2147483648 % 2 == 1)) = true := by
        rw [beq_iff_eq]
        by_cases h : wrap32 x < 0
        · rw [decide_eq_true h]
          have : x / 2147483648 % 2 = 1 := by unfold wrap32 at h; omega
          rw [this]; rfl
        · rw [decide_eq_false h]
          have : x / 2147483648 % 2 = 0 := by unfold wrap32 at h; omega
          rw [this]; rfl
      rw [b3]
      simp [b1, b2]
    · have e1 : num_Signed.f k x = some (0, some 1) := by
        simp [num_Signed.f, num_of.f, h1, h2]
      have e2 : ∀ y, num_Value.f k y = some (0, some 1) := by
        intro y
        simp [num_Value.f, num_of.f, h1, h2]
      rw [e1, e2, sure _ (by omega)]
      simp [h1, h2, mandrellaw02_num1.f, mandrellaw02_number.f]
end Go.Proofs.YtkpafgnchdohaaaDoor.Pure
