/- Plain arithmetic for layer 1: numbers as groups of seven bits. No program. -/
import Derived.Laws.Bits64b
import Derived.Laws.BitsLemmas
import Derived.Laws.DeepNot64
import Derived.Lib.BitFns
import Derived.IntWalk
import Derived.Test.YtljmikfpknmnnaaDoorWMore
namespace Go.Proofs.YtljmikfpknmnnaaDoor.M
open Go Go.RowKit

theorem w64_in {x : Int} (h0 : -9223372036854775808 ≤ x) (h1 : x ≤ 9223372036854775807) : wrap64 x = x := by unfold wrap64; omega
theorem w64_eq (x : Int) : wrap64 x = (x + 9223372036854775808) % 18446744073709551616 - 9223372036854775808 := by unfold wrap64; omega
theorem u64w (x : Int) : IntKind.u64.wrap x = x % 18446744073709551616 := by simp [IntKind.wrap, IntKind.bits, IntKind.signed]
theorem u32w (x : Int) : IntKind.u32.wrap x = x % 4294967296 := by simp [IntKind.wrap, IntKind.bits, IntKind.signed]
theorem i8w (x : Int) : IntKind.i8.wrap x = (x + 128) % 256 - 128 := by
  simp [IntKind.wrap, IntKind.bits, IntKind.signed]
  split <;> omega

/-! ### bytes -/
theorem or128_fin : ∀ b : Fin 256, bits .or .u8 (b.val : Int) 128 = (b.val : Int) % 128 + 128 := by decide +kernel
theorem or128 (b : Int) (h0 : 0 ≤ b) (h1 : b < 256) : bits .or .u8 b 128 = b % 128 + 128 := by
  have h := or128_fin ⟨b.toNat, by omega⟩
  simp only [Int.toNat_of_nonneg h0] at h
  exact h
theorem andNot128_fin : ∀ b : Fin 256, bits .andNot .u8 (b.val : Int) 128 = (b.val : Int) % 128 := by decide +kernel
theorem andNot128 (b : Int) (h0 : 0 ≤ b) (h1 : b < 256) : bits .andNot .u8 b 128 = b % 128 := by
  have h := andNot128_fin ⟨b.toNat, by omega⟩
  simp only [Int.toNat_of_nonneg h0] at h
  exact h
theorem and64_fin : ∀ b : Fin 256, bits .and .u8 (b.val : Int) 64 = (b.val : Int) / 64 % 2 * 64 := by decide +kernel
theorem and64 (b : Int) (h0 : 0 ≤ b) (h1 : b < 256) : bits .and .u8 b 64 = b / 64 % 2 * 64 := by
  have h := and64_fin ⟨b.toNat, by omega⟩
  simp only [Int.toNat_of_nonneg h0] at h
  exact h

/-! ### words -/
theorem or7_u64 (x y : Int) (h0 : 0 ≤ y) (h1 : y < 128) : bits .or .u64 (IntKind.u64.wrap (x * 128)) y = (x * 128 + y) % 18446744073709551616 := by
  rw [u64w, bits_join .u64 64 (by decide) (fun n h0 h1 => by rw [u64w]; omega) 7 _ y (by omega) (by omega) (by omega) h0 (by omega) (by omega)]
  omega
theorem ofInt_mod (z : Int) : BitVec.ofInt 64 (z % 18446744073709551616) = BitVec.ofInt 64 z := by
  apply BitVec.eq_of_toInt_eq
  rw [BitVec.toInt_ofInt, BitVec.toInt_ofInt]
  simp only [Int.bmod_def]
  omega
theorem bits_or_i64 (a b : Int) : bits .or .i64 a b = wrap64 (bits .or .u64 (a % 18446744073709551616) (b % 18446744073709551616)) := by
  show IntKind.i64.wrap ((BitVec.ofInt 64 a ||| BitVec.ofInt 64 b).toNat : Int) = wrap64 (IntKind.u64.wrap ((BitVec.ofInt 64 (a % 18446744073709551616) ||| BitVec.ofInt 64 (b % 18446744073709551616)).toNat : Int))
  rw [ofInt_mod, ofInt_mod]
  generalize BitVec.ofInt 64 a ||| BitVec.ofInt 64 b = z
  have := z.isLt
  rw [u64w, IntKind.wrap_i64]
  unfold wrap64
  omega
theorem or7_i64 (x y : Int) (h0 : 0 ≤ y) (h1 : y < 128) : bits .or .i64 (wrap64 (x * 128)) y = wrap64 (x * 128 + y) := by
  have h := or7_u64 x y h0 h1
  rw [bits_or_i64]
  rw [u64w] at h
  have e1 : wrap64 (x * 128) % 18446744073709551616 = (x * 128) % 18446744073709551616 := by unfold wrap64; omega
  have e2 : y % 18446744073709551616 = y := by omega
  rw [e1, e2, h]
  unfold wrap64
  omega
theorem xor_sign (v : Int) (h0 : -9223372036854775808 ≤ v) (h1 : v ≤ 9223372036854775807) : bits .xor .i64 v (v / 9223372036854775808) = if v < 0 then -1 - v else v := by
  by_cases hv : v < 0
  · rw [if_pos hv, show v / 9223372036854775808 = -1 by omega]
    show IntKind.i64.wrap ((BitVec.ofInt 64 v ^^^ BitVec.ofInt 64 (-1)).toNat : Int) = -1 - v
    have e : BitVec.ofInt 64 (-1) = BitVec.allOnes 64 := by decide
    rw [e, BitVec.xor_allOnes, BitVec.toNat_not, BitVec.toNat_ofInt, IntKind.wrap_i64]
    omega
  · rw [if_neg hv, show v / 9223372036854775808 = 0 by omega]
    show IntKind.i64.wrap ((BitVec.ofInt 64 v ^^^ BitVec.ofInt 64 0).toNat : Int) = v
    have e : BitVec.ofInt 64 0 = 0#64 := by decide
    rw [e, BitVec.xor_zero, BitVec.toNat_ofInt, IntKind.wrap_i64]
    omega

/-! ### the bytes of a number -/
def encU (v : Nat) : List Int := if v < 128 then [(v : Int)] else ((v % 128 + 128 : Nat) : Int) :: encU (v / 128)
termination_by v
decreasing_by omega
def encS (v : Int) : List Int := if v < -64 then (v % 128 + 128) :: encS (v / 128) else if 64 ≤ v then (v % 128 + 128) :: encS (v / 128) else [v % 128]
termination_by v.natAbs
decreasing_by all_goals omega
theorem encU_lo {v : Nat} (h : v < 128) : encU v = [(v : Int)] := by rw [encU, if_pos h]
theorem encU_hi {v : Nat} (h : ¬ v < 128) : encU v = ((v % 128 + 128 : Nat) : Int) :: encU (v / 128) := by rw [encU, if_neg h]
theorem encS_lo {v : Int} (h0 : -64 ≤ v) (h1 : v < 64) : encS v = [v % 128] := by rw [encS, if_neg (by omega), if_neg (by omega)]
theorem encS_hi {v : Int} (h : v < -64 ∨ 64 ≤ v) : encS v = (v % 128 + 128) :: encS (v / 128) := by
  rw [encS]
  rcases h with h | h
  · rw [if_pos h]
  · rw [if_neg (by omega), if_pos h]
/-- An induction on a number without a sign, seven bits at a time. -/
theorem indU {P : Nat → Prop} (lo : ∀ v, v < 128 → P v) (hi : ∀ v, ¬ v < 128 → P (v / 128) → P v) (v : Nat) : P v := by
  induction v using Nat.strongRecOn with
  | _ v ih =>
    by_cases h : v < 128
    · exact lo v h
    · exact hi v h (ih (v / 128) (by omega))
theorem indS {P : Int → Prop} (lo : ∀ v, -64 ≤ v → v < 64 → P v) (hi : ∀ v, (v < -64 ∨ 64 ≤ v) → P (v / 128) → P v) (v : Int) : P v := by
  have key : ∀ n : Nat, ∀ v : Int, v.natAbs < n → P v := by
    intro n
    induction n with
    | zero => intro v h; omega
    | succ n ih =>
      intro v h
      by_cases h2 : v < -64 ∨ 64 ≤ v
      · exact hi v h2 (ih (v / 128) (by omega))
      · exact lo v (by omega) (by omega)
  exact key (v.natAbs + 1) v (by omega)
theorem encU_pos (v : Nat) : 0 < (encU v).length := by
  rw [encU]; split <;> simp
theorem encS_pos (v : Int) : 0 < (encS v).length := by
  rw [encS]; split
  · simp
  · split <;> simp
theorem encU_le : ∀ (n v : Nat), v < 128 ^ (n + 1) → (encU v).length ≤ n + 1
  | 0, v, h => by rw [encU_lo (by simpa using h)]; simp
  | n + 1, v, h => by
    by_cases h2 : v < 128
    · rw [encU_lo h2]; simp
    · rw [encU_hi h2]
      have := encU_le n (v / 128) (by rw [Nat.pow_succ] at h; exact Nat.div_lt_of_lt_mul (by rw [Nat.mul_comm]; exact h))
      simp only [List.length_cons]
      omega
theorem encU_gt : ∀ (n v : Nat), 128 ^ n ≤ v → n < (encU v).length
  | 0, v, _ => encU_pos v
  | n + 1, v, h => by
    have hp : 0 < 128 ^ n := Nat.pow_pos (by decide)
    have h2 : ¬ v < 128 := by rw [Nat.pow_succ] at h; omega
    rw [encU_hi h2]
    have := encU_gt n (v / 128) (by rw [Nat.pow_succ] at h; exact (Nat.le_div_iff_mul_le (by decide)).2 h)
    simp only [List.length_cons]
    omega
/-- As far as a number with a sign is from the edge: it and its other half are as long. -/
def mag (v : Int) : Nat := if v < 0 then (-1 - v).toNat else v.toNat
theorem mag_div (v : Int) : mag (v / 128) = mag v / 128 := by unfold mag; split <;> split <;> omega
theorem mag_small (v : Int) : mag v < 64 ↔ -64 ≤ v ∧ v < 64 := by unfold mag; split <;> omega
theorem encS_le : ∀ (n : Nat) (v : Int), mag v < 64 * 128 ^ n → (encS v).length ≤ n + 1
  | 0, v, h => by
    have := (mag_small v).1 (by omega)
    rw [encS_lo this.1 this.2]; simp
  | n + 1, v, h => by
    by_cases h2 : mag v < 64
    · have := (mag_small v).1 h2
      rw [encS_lo this.1 this.2]; simp
    · rw [encS_hi (by have := mag_small v; omega)]
      have := encS_le n (v / 128) (by rw [mag_div]; rw [Nat.pow_succ] at h; exact Nat.div_lt_of_lt_mul (by rw [show 128 * (64 * 128 ^ n) = 64 * (128 ^ n * 128) by rw [Nat.mul_comm (128 ^ n) 128, Nat.mul_left_comm]]; exact h))
      simp only [List.length_cons]
      omega
theorem encS_gt : ∀ (n : Nat) (v : Int), 64 * 128 ^ n ≤ mag v → n + 1 < (encS v).length
  | 0, v, h => by
    rw [encS_hi (by have := mag_small v; omega)]
    have := encS_pos (v / 128)
    simp only [List.length_cons]
    omega
  | n + 1, v, h => by
    have hp : 0 < 128 ^ n := Nat.pow_pos (by decide)
    rw [encS_hi (by have := mag_small v; rw [Nat.pow_succ] at h; omega)]
    have := encS_gt n (v / 128) (by rw [mag_div]; rw [Nat.pow_succ] at h; exact (Nat.le_div_iff_mul_le (by decide)).2 (by rw [show 64 * 128 ^ n * 128 = 64 * (128 ^ n * 128) from Nat.mul_assoc _ _ _]; exact h))
    simp only [List.length_cons]
    omega
theorem encS_len_mag : ∀ v w : Int, mag v = mag w → (encS v).length = (encS w).length := by
  intro v
  induction v using indS with
  | lo v h0 h1 =>
    intro w h
    have h2 := (mag_small v).2 ⟨h0, h1⟩
    have h3 := (mag_small w).1 (by omega)
    rw [encS_lo h0 h1, encS_lo h3.1 h3.2]; rfl
  | hi v h ih =>
    intro w h2
    have h3 := mag_small v
    have h4 := mag_small w
    rw [encS_hi h, encS_hi (v := w) (by omega)]
    simp only [List.length_cons]
    rw [ih (w / 128) (by rw [mag_div, mag_div, h2])]
theorem encU_bytes (v : Nat) : ∀ x ∈ encU v, 0 ≤ x ∧ x < 256 := by
  induction v using indU with
  | lo v h => rw [encU_lo h]; intro x hx; simp at hx; omega
  | hi v h ih =>
    rw [encU_hi h]
    intro x hx
    rcases List.mem_cons.1 hx with rfl | hx
    · omega
    · exact ih x hx
theorem encS_bytes (v : Int) : ∀ x ∈ encS v, 0 ≤ x ∧ x < 256 := by
  induction v using indS with
  | lo v h0 h1 => rw [encS_lo h0 h1]; intro x hx; simp at hx; omega
  | hi v h ih =>
    rw [encS_hi h]
    intro x hx
    rcases List.mem_cons.1 hx with rfl | hx
    · omega
    · exact ih x hx

/-! ### how many bytes -/
theorem bitLen_small : ∀ v : Fin 128, Lib.bitLen v.val ≤ 7 := by decide +kernel
theorem bitLen_le7 {v : Nat} (h : v < 128) : Lib.bitLen v ≤ 7 := bitLen_small ⟨v, h⟩
theorem bitLen_div {v : Nat} (h : ¬ v < 128) (hv : v < 18446744073709551616) : Lib.bitLen v = 7 + Lib.bitLen (v / 128) := Lib.bitLen_shift 7 v (by omega) hv
theorem bitLen_pos_small : ∀ v : Fin 128, 0 < v.val → 0 < Lib.bitLen v.val := by decide +kernel
theorem bitLen_pos : ∀ v : Nat, 0 < v → v < 18446744073709551616 → 0 < Lib.bitLen v := by
  intro v h0 hv
  by_cases h : v < 128
  · exact bitLen_pos_small ⟨v, h⟩ h0
  · rw [bitLen_div h hv]; omega
theorem sizeU_len (v : Nat) : v < 18446744073709551616 → max 1 ((Lib.bitLen v + 6) / 7) = (encU v).length := by
  induction v using indU with
  | lo v h => intro _; rw [encU_lo h]; have := bitLen_le7 h; simp only [List.length_singleton]; omega
  | hi v h ih =>
    intro hv
    have h2 := ih (by omega)
    rw [encU_hi h, bitLen_div h hv]
    have h3 := bitLen_pos (v / 128) (by omega) (by omega)
    simp only [List.length_cons]
    omega
theorem bitLen_small6 : ∀ v : Fin 64, Lib.bitLen v.val ≤ 6 := by decide +kernel
theorem bitLen_big6 : ∀ v : Fin 128, 64 ≤ v.val → Lib.bitLen v.val = 7 := by decide +kernel
theorem sizeS_len (v : Int) : mag v < 9223372036854775808 → (Lib.bitLen (mag v) + 7) / 7 = (encS v).length := by
  induction v using indS with
  | lo v h0 h1 =>
    intro _
    have h2 := (mag_small v).2 ⟨h0, h1⟩
    have := bitLen_small6 ⟨mag v, h2⟩
    rw [encS_lo h0 h1]
    simp only [List.length_singleton] at *
    omega
  | hi v h ih =>
    intro hv
    have h2 := ih (by rw [mag_div]; omega)
    have h3 := mag_small v
    rw [encS_hi h]
    rw [mag_div] at h2
    simp only [List.length_cons]
    by_cases h4 : mag v < 128
    · have h5 := bitLen_big6 ⟨mag v, h4⟩ (by simp only; omega)
      simp only at h5
      have h6 : mag v / 128 = 0 := by omega
      rw [h6] at h2
      have h7 : Lib.bitLen 0 = 0 := by decide
      omega
    · rw [bitLen_div h4 (by omega)]
      omega

/-! ### the number of some bytes -/
def valU : List Int → Int
  | [] => 0
  | c :: r => c % 128 + 128 * valU r
theorem valU_append (a b : List Int) : valU (a ++ b) = valU a + 128 ^ a.length * valU b := by
  induction a with
  | nil => simp [valU]
  | cons c r ih =>
    simp only [List.cons_append, valU, List.length_cons, Int.pow_succ, ih]
    rw [Int.mul_add, Int.mul_comm (128 ^ r.length) 128, Int.mul_assoc]
    omega
theorem valU_nonneg : ∀ l : List Int, 0 ≤ valU l
  | [] => by simp [valU]
  | c :: r => by have := valU_nonneg r; simp only [valU]; omega
theorem valU_lt : ∀ l : List Int, valU l < 128 ^ l.length
  | [] => by simp [valU]
  | c :: r => by have := valU_lt r; simp only [valU, List.length_cons, Int.pow_succ]; omega
theorem valU_encU (v : Nat) : valU (encU v) = v := by
  induction v using indU with
  | lo v h => rw [encU_lo h]; simp only [valU]; omega
  | hi v h ih => rw [encU_hi h]; simp only [valU, ih]; omega
theorem valU_encS (v : Int) : valU (encS v) = v + (if v < 0 then 128 ^ (encS v).length else 0) := by
  induction v using indS with
  | lo v h0 h1 => rw [encS_lo h0 h1]; simp only [valU, List.length_singleton]; split <;> omega
  | hi v h ih =>
    rw [encS_hi h]
    simp only [valU, ih, List.length_cons, Int.pow_succ]
    split
    · rw [if_pos (by omega)]; omega
    · rw [if_neg (by omega)]; omega
/-- The place of the first byte below 128, or the length. -/
def firstSmall : List Int → Nat
  | [] => 0
  | c :: r => if c < 128 then 0 else firstSmall r + 1
theorem firstSmall_le : ∀ l : List Int, firstSmall l ≤ l.length
  | [] => by simp [firstSmall]
  | c :: r => by have := firstSmall_le r; simp only [firstSmall, List.length_cons]; split <;> omega
theorem firstSmall_encU (v : Nat) (b : List Int) : firstSmall (encU v ++ b) + 1 = (encU v).length := by
  induction v using indU with
  | lo v h => rw [encU_lo h]; simp [firstSmall]; omega
  | hi v h ih =>
    rw [encU_hi h]
    simp only [List.cons_append, firstSmall, List.length_cons]
    rw [if_neg (by omega), ih]
theorem firstSmall_encS (v : Int) (b : List Int) : firstSmall (encS v ++ b) + 1 = (encS v).length := by
  induction v using indS with
  | lo v h0 h1 => rw [encS_lo h0 h1]; simp [firstSmall]; omega
  | hi v h ih =>
    rw [encS_hi h]
    simp only [List.cons_append, firstSmall, List.length_cons]
    rw [if_neg (by omega), ih]
theorem firstSmall_below : ∀ (l : List Int) (i : Nat), i < firstSmall l → 128 ≤ l.getD i 0
  | [], i, h => by simp [firstSmall] at h
  | c :: r, i, h => by
    simp only [firstSmall] at h
    split at h
    · omega
    · rcases i with _ | i
      · simp; omega
      · simpa using firstSmall_below r i (by omega)
theorem firstSmall_at : ∀ (l : List Int), firstSmall l < l.length → l.getD (firstSmall l) 0 < 128
  | [], h => by simp [firstSmall] at h
  | c :: r, h => by
    simp only [firstSmall] at h ⊢
    split
    · simpa using ‹c < 128›
    · rename_i h2
      rw [if_neg h2] at h
      simpa using firstSmall_at r (by simpa using h)
end Go.Proofs.YtljmikfpknmnnaaDoor.M
