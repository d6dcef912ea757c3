/- For every slice of at most 1,000 bytes and every number: PutU and PutS lay the document's bytes behind those that are there, SizeU and SizeS tell how many; longer slices only come to the small thing that the layer does. No condition. -/
import Derived.Test.YtljmikfpknmnnaaXLx4
import Derived.Test.YtljmikfpknmnnaaLeb
namespace Go.Proofs.Ytljmikfpknmnnaa.Pure
open Go Go.RowKit Go.Proofs.Ytljmikfpknmnnaa.M Go.Proofs.Ytljmikfpknmnnaa.Leb Go.Proofs.Ytljmikfpknmnnaa.XL Go.Proofs.YtljmikfpknmnnaaW.PrintWords Go.Proofs.YtljmikfpknmnnaaW.PrintLast

theorem refU_l0 (v : Nat) : ∀ (k : Nat) (a : List Int), v < 18446744073709551616 → (encU v).length ≤ k → a.length + (encU v).length < 140737488355328 → mandrelref01_PutU.l0 k (v : Int) a = some (a ++ encU v) := by
  induction v using indU with
  | lo v h =>
    intro k a hv hk ha
    rw [encU_lo h] at hk ha ⊢
    simp only [List.length_singleton] at hk ha
    obtain ⟨k, rfl⟩ : ∃ m, k = m + 1 := ⟨k - 1, by omega⟩
    simp only [mandrelref01_PutU.l0]
    rw [if_neg (by omega), if_pos (by omega), show (v : Int) % 256 = v by omega]
  | hi v h ih =>
    intro k a hv hk ha
    rw [encU_hi h] at hk ha ⊢
    simp only [List.length_cons] at hk ha
    obtain ⟨k, rfl⟩ : ∃ m, k = m + 1 := ⟨k - 1, by omega⟩
    simp only [mandrelref01_PutU.l0]
    rw [if_pos (by omega), if_pos (by omega), Int.tdiv_eq_ediv_of_nonneg (by omega), Int.tmod_eq_emod_of_nonneg (by omega), u64w, u64w, show (v : Int) / 128 % 18446744073709551616 = ((v / 128 : Nat) : Int) by omega]
    rw [ih k _ (by omega) (by omega) (by simp only [List.length_append, List.length_singleton]; omega), List.append_assoc, show ((v : Int) % 128 + 128) % 18446744073709551616 % 256 = ((v % 128 + 128 : Nat) : Int) by omega]
    rfl
theorem refU (v : Int) (k : Nat) (hk : 10 ≤ k) (h0 : 0 ≤ v) (h1 : v < 18446744073709551616) : mandrelref01_PutU.f k v = some (encU v.toNat) := by
  have h := encU_10 (v := v.toNat) (by omega)
  have h2 := refU_l0 v.toNat k [] (by omega) (by omega) (by simp; omega)
  rw [Int.toNat_of_nonneg h0] at h2
  simpa [mandrelref01_PutU.f] using h2
theorem refS_l0 (v : Int) : ∀ (k : Nat) (a : List Int), -9223372036854775808 ≤ v → v ≤ 9223372036854775807 → 2 * (encS v).length ≤ k → a.length + (encS v).length < 140737488355328 → mandrelref01_PutS.l0 k v a = some (a ++ encS v) := by
  induction v using indS with
  | lo v h0 h1 =>
    intro k a hv0 hv1 hk ha
    rw [encS_lo h0 h1] at hk ha ⊢
    simp only [List.length_singleton] at hk ha
    obtain ⟨k, rfl⟩ : ∃ m, k = m + 1 + 1 := ⟨k - 2, by omega⟩
    simp only [mandrelref01_PutS.l0, mandrelref01_PutS.j1]
    rw [if_neg (by omega), if_neg (by simp; omega)]
    by_cases h : v < 0
    · rw [if_pos h, if_pos (by omega), w64_in (by omega) (by omega), show (v + 128) % 256 = v % 128 by omega]
    · rw [if_neg h, if_pos (by omega), show v % 256 = v % 128 by omega]
  | hi v h ih =>
    intro k a hv0 hv1 hk ha
    rw [encS_hi h] at hk ha ⊢
    simp only [List.length_cons] at hk ha
    obtain ⟨k, rfl⟩ : ∃ m, k = m + 1 + 1 := ⟨k - 2, by omega⟩
    have e : mandrelref01_PutS.j1 (k + 1) v a true = some (a ++ (v % 128 + 128) :: encS (v / 128)) := by
      simp only [mandrelref01_PutS.j1]
      rw [if_pos trivial]
      have hm : Int.tmod v 128 = if 0 ≤ v ∨ v % 128 = 0 then v % 128 else v % 128 - 128 := by
        rw [Int.tmod_eq_emod]
        split <;> split <;> omega
      by_cases h2 : 0 ≤ v ∨ v % 128 = 0
      · rw [if_pos h2] at hm
        rw [hm, if_neg (by omega), if_pos (by omega), w64_in (x := v - v % 128) (by omega) (by omega), show (v - v % 128) = 128 * (v / 128) by omega, Int.mul_tdiv_cancel_left _ (by decide), w64_in (x := v / 128) (by omega) (by omega), w64_in (x := v % 128 + 128) (by omega) (by omega)]
        rw [ih k _ (by omega) (by omega) (by omega) (by simp only [List.length_append, List.length_singleton]; omega), List.append_assoc, show (v % 128 + 128) % 256 = v % 128 + 128 by omega]
        rfl
      · rw [if_neg h2] at hm
        rw [hm, if_pos (by omega), if_pos (by omega), w64_in (x := v % 128 - 128 + 128) (by omega) (by omega), w64_in (x := v - (v % 128 - 128 + 128)) (by omega) (by omega), show (v - (v % 128 - 128 + 128)) = 128 * (v / 128) by omega, Int.mul_tdiv_cancel_left _ (by decide), w64_in (x := v / 128) (by omega) (by omega), w64_in (x := v % 128 - 128 + 128 + 128) (by omega) (by omega)]
        rw [ih k _ (by omega) (by omega) (by omega) (by simp only [List.length_append, List.length_singleton]; omega), List.append_assoc, show (v % 128 - 128 + 128 + 128) % 256 = v % 128 + 128 by omega]
        rfl
    simp only [mandrelref01_PutS.l0]
    rcases h with h | h
    · rw [if_pos h, e]
    · rw [if_neg (by omega), show decide (v > 63) = true by simp; omega, e]
theorem refS (v : Int) (k : Nat) (hk : 20 ≤ k) (h0 : -9223372036854775808 ≤ v) (h1 : v ≤ 9223372036854775807) : mandrelref01_PutS.f k v = some (encS v) := by
  have h := encS_10 h0 h1
  have h2 := refS_l0 v k [] h0 h1 (by omega) (by simp; omega)
  simpa [mandrelref01_PutS.f] using h2
theorem str_app (a b : List Int) : (strOfNums (a ++ b)).toList = (strOfNums a ++ strOfNums b).toList := by
  have e : strOfNums (a ++ b) = strOfNums a ++ strOfNums b := by
    apply ByteArray.ext
    simp [strOfNums, ByteArray.data_append]
  rw [e]
theorem LebPuts : mandrellaw01_LebPuts.Pure := by
  intro b v hb1 hb2 hb3 hw
  have hv : 0 ≤ v ∧ v < 18446744073709551616 := by
    simp [Lit.wf, IntKind.min, IntKind.max, IntKind.signed, IntKind.bits] at hw
    omega
  refine ⟨60, ?_⟩
  unfold mandrellaw01_LebPuts.f
  have hs : -9223372036854775808 ≤ wrap64 v ∧ wrap64 v ≤ 9223372036854775807 := by unfold wrap64; omega
  split
  · rw [sure 60 (by omega)]; rfl
  · rename_i hlen
    rw [refU v 60 (by omega) hv.1 hv.2, refS (wrap64 v) 60 (by omega) hs.1 hs.2]
    have hl := encU_10 (v := v.toNat) (by omega)
    have hl2 := encS_10 hs.1 hs.2
    simp only [Option.bind_some, strOfNums_size]
    rw [putU v b 60 (by omega) (by omega) hv.1 hv.2]
    simp only [Option.bind_some]
    rw [if_pos (by omega), if_pos (str_app _ _), putS (wrap64 v) b 60 (by omega) (by omega) hs.1 hs.2]
    simp only [Option.bind_some]
    rw [if_pos (by omega), if_pos (str_app _ _), sizeU v hv.1 hv.2]
    simp only [Option.bind_some, if_true]
    rw [sizeS (wrap64 v) hs.1 hs.2]
    simp only [Option.bind_some, if_true]
    rw [sure 60 (by omega)]
    rfl
end Go.Proofs.Ytljmikfpknmnnaa.Pure
