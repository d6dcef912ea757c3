/- For every number and whatever stands behind (at most 1,000 bytes; more only come to the small thing that the layer does): what PutU and PutS lay is taken again, of 64 bits, and of 32, where it has no more. No condition. -/
import Derived.Test.YtljmikfpknmnnaaXLx5
import Derived.Test.YtljmikfpknmnnaaLebTake
namespace Go.Proofs.Ytljmikfpknmnnaa.Pure
open Go Go.RowKit Go.Proofs.Ytljmikfpknmnnaa.M Go.Proofs.Ytljmikfpknmnnaa.Leb Go.Proofs.Ytljmikfpknmnnaa.XL Go.Proofs.YtljmikfpknmnnaaW.PrintWords Go.Proofs.YtljmikfpknmnnaaW.PrintLast

theorem wf_u8 {l : List Int} (h : ∀ x ∈ l, (Lit.int .u8 x).wf = true) : ∀ x ∈ l, 0 ≤ x ∧ x < 256 := by
  intro x hx
  have := h x hx
  simp [Lit.wf, IntKind.min, IntKind.max, IntKind.signed, IntKind.bits] at this
  omega
theorem app_bytes {a b : List Int} (ha : ∀ x ∈ a, 0 ≤ x ∧ x < 256) (hb : ∀ x ∈ b, 0 ≤ x ∧ x < 256) : ∀ x ∈ a ++ b, 0 ≤ x ∧ x < 256 := by
  intro x hx
  rcases List.mem_append.1 hx with h | h
  · exact ha x h
  · exact hb x h
theorem LebBack : mandrellaw01_LebBack.Pure := by
  intro v b hw hb1 hb2 hb3
  have hv : 0 ≤ v ∧ v < 18446744073709551616 := by
    simp [Lit.wf, IntKind.min, IntKind.max, IntKind.signed, IntKind.bits] at hw
    omega
  have hb := wf_u8 hb3
  obtain ⟨s, hs⟩ : ∃ s, wrap64 v = s := ⟨_, rfl⟩
  have hsb : -9223372036854775808 ≤ s ∧ s ≤ 9223372036854775807 := by rw [← hs]; unfold wrap64; omega
  refine ⟨1101, ?_⟩
  unfold mandrellaw01_LebBack.f
  split
  · rw [sure 1101 (by omega)]; rfl
  · rename_i hlen
    rw [hs]
    have hl := encU_10 (v := v.toNat) (by omega)
    have hl2 := encS_10 hsb.1 hsb.2
    have hlu : (encU v.toNat ++ b).length = (encU v.toNat).length + b.length := List.length_append
    have hls : (encS s ++ b).length = (encS s).length + b.length := List.length_append
    have hbu := app_bytes (encU_bytes v.toNat) hb
    have hbs := app_bytes (encS_bytes s) hb
    rw [putU v [] 1101 (by omega) (by simp) hv.1 hv.2]
    simp only [Option.bind_some, List.nil_append]
    rw [if_pos (by simp only [List.length_nil]; omega)]
    rw [if_pos (by omega), putS s [] 1101 (by omega) (by simp) hsb.1 hsb.2]
    simp only [Option.bind_some, List.nil_append]
    rw [if_pos (by simp only [List.length_nil]; omega)]
    rw [if_pos (by omega)]
    have t64 : leb_TakeU.f 1101 (encU v.toNat ++ b) 64 = some (v, ((encU v.toNat).length : Int), none) := by
      have h := takeU (encU v.toNat ++ b) 64 1101 (by omega) (by omega) (by omega) hbu (by omega)
      rw [takeU_enc v.toNat b 64 (by omega) (by omega), if_pos (by omega), Int.toNat_of_nonneg hv.1] at h
      exact h
    have s64 : leb_TakeS.f 1101 (encS s ++ b) 64 = some (s, ((encS s).length : Int), none) := by
      have h := takeS (encS s ++ b) 64 1101 (by omega) (by omega) (by omega) hbs (by omega)
      rw [takeS_enc s b 64 (by omega) hsb.1 hsb.2, if_pos (by rw [mag_lt]; omega)] at h
      exact h
    have t32 : leb_TakeU.f 1100 (encU v.toNat ++ b) 32 = some (if v < 4294967296 then (v, ((encU v.toNat).length : Int), none) else (0, 0, some 6)) := by
      have h := takeU (encU v.toNat ++ b) 32 1100 (by omega) (by omega) (by omega) hbu (by omega)
      rw [takeU_enc v.toNat b 32 (by omega) (by omega), Int.toNat_of_nonneg hv.1] at h
      refine h.trans (congrArg some ?_)
      by_cases h2 : v < 4294967296
      · rw [if_pos h2, if_pos (by omega)]
      · rw [if_neg h2, if_neg (by omega)]
    have s32 : leb_TakeS.f 1100 (encS s ++ b) 32 = some (if -2147483648 ≤ s ∧ s < 2147483648 then (s, ((encS s).length : Int), none) else (0, 0, some 6)) := by
      have h := takeS (encS s ++ b) 32 1100 (by omega) (by omega) (by omega) hbs (by omega)
      rw [takeS_enc s b 32 (by omega) hsb.1 hsb.2] at h
      refine h.trans (congrArg some ?_)
      by_cases h2 : -2147483648 ≤ s ∧ s < 2147483648
      · rw [if_pos h2, if_pos (by rw [mag_lt]; omega)]
      · rw [if_neg h2, if_neg (by rw [mag_lt]; omega)]
    rw [t64]
    simp only [Option.bind_some]
    rw [s64]
    simp only [Option.bind_some, Option.isNone_none, if_true]
    rw [sizeU v hv.1 hv.2]
    simp only [Option.bind_some, if_true]
    rw [sizeS s hsb.1 hsb.2]
    simp only [Option.bind_some, bne_self_eq_false]
    simp only [mandrellaw01_LebBack.j0]
    rw [t32, s32, hs, sure 1100 (by omega)]
    by_cases h1 : v < 4294967296 <;> by_cases h2 : -2147483648 ≤ s <;> by_cases h3 : s < 2147483648 <;> simp [h1, h2, h3]
end Go.Proofs.Ytljmikfpknmnnaa.Pure
