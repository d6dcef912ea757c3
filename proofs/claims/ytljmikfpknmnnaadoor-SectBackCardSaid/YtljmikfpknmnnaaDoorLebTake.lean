/- What was laid is taken: TakeU, TakeS at the bytes of a number, whatever stands behind. No program. -/
import Derived.Test.YtljmikfpknmnnaaDoorLeb
namespace Go.Proofs.YtljmikfpknmnnaaDoor.Leb
open Go Go.RowKit Go.Proofs.YtljmikfpknmnnaaDoor.M Go.Proofs.YtljmikfpknmnnaaDoor.XS Go.Proofs.YtljmikfpknmnnaaDoorW.PrintWords Go.Proofs.YtljmikfpknmnnaaDoorW.PrintLast Go.Proofs.YtljmikfpknmnnaaDoorW.PrintMore

theorem encU_last (v : Nat) (b : List Int) : (encU v ++ b).getD ((encU v).length - 1) 0 = ((v / 128 ^ ((encU v).length - 1) : Nat) : Int) := by
  induction v using indU with
  | lo v h => rw [encU_lo h]; simp
  | hi v h ih =>
    have hp := encU_pos (v / 128)
    rw [encU_hi h]
    simp only [List.length_cons, List.cons_append, Nat.add_sub_cancel]
    obtain ⟨n, hn⟩ : ∃ n, (encU (v / 128)).length = n + 1 := ⟨(encU (v / 128)).length - 1, by omega⟩
    rw [hn] at ih ⊢
    simp only [Nat.add_sub_cancel] at ih
    rw [List.getD_cons_succ, ih, Nat.pow_succ, Nat.mul_comm, Nat.div_div_eq_div_mul]
theorem encU_range (v : Nat) : v < 128 ^ (encU v).length ∧ (2 ≤ (encU v).length → 128 ^ ((encU v).length - 1) ≤ v) := by
  constructor
  · apply Nat.lt_of_not_le
    intro h
    have := encU_gt _ v h
    omega
  · intro h
    apply Nat.le_of_not_lt
    intro h2
    obtain ⟨n, hn⟩ : ∃ n, (encU v).length = n + 2 := ⟨(encU v).length - 2, by omega⟩
    rw [hn] at h2
    have := encU_le n v h2
    omega
theorem pow7 (n : Nat) : (128 : Nat) ^ n = 2 ^ (7 * n) := by rw [Nat.pow_mul]
theorem takeU_enc (v : Nat) (b : List Int) (w : Nat) (hw : 1 ≤ w) (hv : v < 18446744073709551616) : takeUOf (encU v ++ b) w = if v < 2 ^ w then ((v : Int), ((encU v).length : Int), none) else (0, 0, some 6) := by
  have hp := encU_pos v
  have hf := firstSmall_encU v b
  have hr := encU_range v
  have hl := encU_last v b
  have htake : (encU v ++ b).take (encU v).length = encU v := by rw [List.take_left]
  unfold takeUOf
  have hlen : (encU v ++ b).length = (encU v).length + b.length := List.length_append
  generalize hn : (encU v).length = n at *
  have hfs : firstSmall (encU v ++ b) = n - 1 := by omega
  rw [hfs]
  by_cases h : n - 1 < (w + 6) / 7
  · rw [if_pos ⟨by omega, h⟩]
    unfold endU
    rw [show n - 1 + 1 = n by omega, htake, hl, valU_encU]
    have e : ((v / 128 ^ (n - 1) : Nat) : Int) / 2 ^ (w - 7 * (n - 1)) = ((v / 2 ^ w : Nat) : Int) := by
      have e1 : ((2 : Int) ^ (w - 7 * (n - 1))) = ((2 ^ (w - 7 * (n - 1)) : Nat) : Int) := by simp
      rw [e1, ← Int.natCast_ediv, Nat.div_div_eq_div_mul, pow7, ← Nat.pow_add, show 7 * (n - 1) + (w - 7 * (n - 1)) = w by omega]
    rw [e]
    by_cases h2 : v < 2 ^ w
    · rw [if_pos h2, Nat.div_eq_of_lt h2, if_neg (by simp)]
      congr 1
      omega
    · rw [if_neg h2, if_pos]
      refine ⟨?_, ?_⟩
      · apply Nat.lt_of_not_le
        intro h3
        have h4 : (2 : Nat) ^ (7 * n) ≤ 2 ^ w := Nat.pow_le_pow_right (by decide) h3
        rw [← pow7] at h4
        omega
      · have : 0 < v / 2 ^ w := Nat.div_pos (by omega) (Nat.pow_pos (by decide))
        omega
  · rw [if_neg (by omega), if_neg (by omega)]
    rw [if_neg]
    have h4 := hr.2 (by omega)
    have h5 : (2 : Nat) ^ w ≤ 2 ^ (7 * (n - 1)) := Nat.pow_le_pow_right (by decide) (by omega)
    rw [← pow7] at h5
    omega

theorem encS_last (v : Int) (b : List Int) : (encS v ++ b).getD ((encS v).length - 1) 0 = (v / 128 ^ ((encS v).length - 1)) % 128 := by
  induction v using indS with
  | lo v h0 h1 => rw [encS_lo h0 h1]; simp
  | hi v h ih =>
    have hp := encS_pos (v / 128)
    rw [encS_hi h]
    simp only [List.length_cons, List.cons_append, Nat.add_sub_cancel]
    obtain ⟨n, hn⟩ : ∃ n, (encS (v / 128)).length = n + 1 := ⟨(encS (v / 128)).length - 1, by omega⟩
    rw [hn] at ih ⊢
    simp only [Nat.add_sub_cancel] at ih
    rw [List.getD_cons_succ, ih, Int.pow_succ, Int.mul_comm, Int.ediv_ediv_of_nonneg (by omega)]
theorem encS_range (v : Int) : mag v < 64 * 128 ^ ((encS v).length - 1) ∧ (2 ≤ (encS v).length → 64 * 128 ^ ((encS v).length - 2) ≤ mag v) := by
  have hp := encS_pos v
  constructor
  · apply Nat.lt_of_not_le
    intro h
    have := encS_gt _ v h
    omega
  · intro h
    apply Nat.le_of_not_lt
    intro h2
    have := encS_le _ v h2
    omega
theorem mag_lt (v : Int) (m : Nat) : mag v < m ↔ -(m : Int) ≤ v ∧ v < m := by unfold mag; split <;> omega
theorem pow6 (n : Nat) : 64 * (128 : Nat) ^ n = 2 ^ (7 * n + 6) := by rw [Nat.pow_add, Nat.pow_mul, Nat.mul_comm]
theorem takeS_enc (v : Int) (b : List Int) (w : Nat) (hw : 1 ≤ w) (h0 : -9223372036854775808 ≤ v) (h1 : v ≤ 9223372036854775807) : takeSOf (encS v ++ b) w = if mag v < 2 ^ (w - 1) then (v, ((encS v).length : Int), none) else (0, 0, some 6) := by
  have hp := encS_pos v
  have hf := firstSmall_encS v b
  have hr := encS_range v
  have hl := encS_last v b
  have hv := valU_encS v
  have htake : (encS v ++ b).take (encS v).length = encS v := by rw [List.take_left]
  unfold takeSOf
  have hlen : (encS v ++ b).length = (encS v).length + b.length := List.length_append
  generalize hn : (encS v).length = n at *
  have hfs : firstSmall (encS v ++ b) = n - 1 := by omega
  rw [hfs]
  by_cases h : n - 1 < (w + 6) / 7
  · rw [if_pos ⟨by omega, h⟩]
    unfold endS topS
    rw [show n - 1 + 1 = n by omega, htake, hl, hv]
    have hq : -64 ≤ v / 128 ^ (n - 1) ∧ v / 128 ^ (n - 1) < 64 := by
      have h3 := (mag_lt v _).1 hr.1
      have h4 : (0 : Int) < 128 ^ (n - 1) := Int.pow_pos (by decide)
      have e4 : ((64 * 128 ^ (n - 1) : Nat) : Int) = 64 * 128 ^ (n - 1) := by simp
      rw [e4] at h3
      constructor
      · exact (Int.le_ediv_iff_mul_le h4).2 (by omega)
      · exact (Int.ediv_lt_iff_lt_mul h4).2 (by omega)
    have hsign : (v / 128 ^ (n - 1) < 0) ↔ v < 0 := by
      have h4 : (0 : Int) < 128 ^ (n - 1) := Int.pow_pos (by decide)
      constructor
      · intro h5
        apply Int.lt_of_not_ge
        intro h6
        have := Int.ediv_nonneg h6 (Int.le_of_lt h4)
        omega
      · intro h5
        exact (Int.ediv_lt_iff_lt_mul h4).2 (by omega)
    generalize hqq : v / 128 ^ (n - 1) = q at *
    have e1 : (q % 128 * 2 % 256 + 128) % 256 / 2 - 64 = q := by omega
    have e2 : (q % 128 / 64 % 2 = 0) ↔ ¬ v < 0 := by rw [← hsign]; omega
    have e3 : wrap64 (v + (if v < 0 then 128 ^ n else 0) - (if q % 128 / 64 % 2 = 0 then 0 else 128 ^ n)) = v := by
      by_cases h5 : v < 0
      · rw [if_pos h5, if_neg (by rw [e2]; omega), show v + 128 ^ n - 128 ^ n = v by omega, w64_in h0 h1]
      · rw [if_neg h5, if_pos (e2.2 h5), show v + 0 - 0 = v by omega, w64_in h0 h1]
    rw [e1, e3]
    have hc : ((n - 1 + 1 : Nat) : Int) = (n : Int) := by omega
    by_cases h7 : 7 * n ≤ w
    · have h8 : (2 : Nat) ^ (7 * (n - 1) + 6) ≤ 2 ^ (w - 1) := Nat.pow_le_pow_right (by decide) (by omega)
      rw [← pow6] at h8
      rw [if_neg (by omega), if_pos (by omega)]
    · have e5 : q / 2 ^ (w - 7 * (n - 1) - 1) = v / ((2 ^ (w - 1) : Nat) : Int) := by
        have h4 : (0 : Int) ≤ 128 ^ (n - 1) := Int.le_of_lt (Int.pow_pos (by decide))
        rw [← hqq, Int.ediv_ediv_of_nonneg h4]
        congr 1
        have e6 : ((128 : Int) ^ (n - 1) * 2 ^ (w - 7 * (n - 1) - 1)) = ((128 ^ (n - 1) * 2 ^ (w - 7 * (n - 1) - 1) : Nat) : Int) := by simp
        rw [e6, pow7, ← Nat.pow_add, show 7 * (n - 1) + (w - 7 * (n - 1) - 1) = w - 1 by omega]
      rw [e5]
      have h9 : (0 : Int) < ((2 ^ (w - 1) : Nat) : Int) := by have := Nat.pow_pos (a := 2) (n := w - 1) (by decide); omega
      have e7 : (v / ((2 ^ (w - 1) : Nat) : Int) = 0 ∨ v / ((2 ^ (w - 1) : Nat) : Int) = -1) ↔ mag v < 2 ^ (w - 1) := by
        rw [mag_lt]
        generalize ((2 ^ (w - 1) : Nat) : Int) = p at *
        have a1 := Int.le_ediv_iff_mul_le (a := -1) (b := v) h9
        have a2 := Int.ediv_lt_iff_lt_mul (a := v) (b := 1) h9
        omega
      by_cases h10 : mag v < 2 ^ (w - 1)
      · rw [if_neg (by intro h11; exact h11.2 (e7.2 h10)), if_pos h10]
      · rw [if_pos ⟨by omega, fun h11 => h10 (e7.1 h11)⟩, if_neg h10]
  · rw [if_neg (by omega), if_neg (by omega)]
    rw [if_neg]
    have h4 := hr.2 (by omega)
    have h5 : (2 : Nat) ^ (w - 1) ≤ 2 ^ (7 * (n - 2) + 6) := Nat.pow_le_pow_right (by decide) (by omega)
    rw [← pow6] at h5
    omega
end Go.Proofs.YtljmikfpknmnnaaDoor.Leb
