/- NumOnes: the instructions of one operand, as the document's answer tells them. No program. -/
import Derived.Test.YtkpafgnchdohaaaDoorXNx7
import Derived.Test.YtkpafgnchdohaaaDoorOnes
import Derived.Lib.TrailingZeros
namespace Go.Proofs.YtkpafgnchdohaaaDoor.Pure
open Go Go.RowKit Go.Proofs.YtkpafgnchdohaaaDoor.Num Go.Proofs.YtkpafgnchdohaaaDoor.XN Go.Proofs.YtkpafgnchdohaaaDoorW.PrintWords Go.Proofs.YtkpafgnchdohaaaDoorW.PrintLast

attribute [local irreducible] bits_OnesCount64.f
theorem ref_bit (x i : Nat) (h : i ≤ 64) : mandrelref02_bit.f (x : Int) (i : Int) = some (x / 2 ^ i % 2 == 1) := by
  have hs : shr .u64 (x : Int) (i : Int) = ((x / 2 ^ i : Nat) : Int) := by
    unfold shr
    rw [Int.toNat_natCast, Nat.min_eq_left (show i ≤ IntKind.u64.bits from h)]
    simp
  unfold mandrelref02_bit.f
  rw [if_pos (Int.natCast_nonneg _), hs, Int.tmod_eq_emod_of_nonneg (Int.natCast_nonneg _)]
  congr 1
  rcases Nat.mod_two_eq_zero_or_one (x / 2 ^ i) with h | h
  · rw [h]
    have : (((x / 2 ^ i : Nat) : Int)) % 2 = 0 := by omega
    rw [this]; rfl
  · rw [h]
    have : (((x / 2 ^ i : Nat) : Int)) % 2 = 1 := by omega
    rw [this]; rfl
/-- the highest one -/
theorem top_bit (x m : Nat) (hm : m < 64) (h : x < 2 ^ (m + 1)) (h1 : x / 2 ^ m % 2 = 1) : Lib.bitLen x = m + 1 := by
  have hp : 0 < 2 ^ m := Nat.pow_pos (by decide)
  have h64 : (2 : Nat) ^ (m + 1) ≤ 2 ^ 64 := Nat.pow_le_pow_right (by decide) hm
  have hq : x / 2 ^ m < 2 := by rw [Nat.pow_succ] at h; exact Nat.div_lt_of_lt_mul h
  have hq1 : x / 2 ^ m = 1 := (show ∀ q : Nat, q < 2 → q % 2 = 1 → q = 1 by omega) _ hq h1
  have hle : 2 ^ m ≤ x := by
    apply Nat.le_of_not_lt
    intro h2
    rw [Nat.div_eq_of_lt h2] at hq1
    omega
  rw [Lib.bitLen_shift m x hle (Nat.lt_of_lt_of_le h h64), hq1]
  rfl
theorem no_top (x m : Nat) (h : x < 2 ^ (m + 1)) (h1 : x / 2 ^ m % 2 = 0) : x < 2 ^ m := by
  have hq : x / 2 ^ m < 2 := by rw [Nat.pow_succ] at h; exact Nat.div_lt_of_lt_mul h
  have hq1 : x / 2 ^ m = 0 := (show ∀ q : Nat, q < 2 → q % 2 = 0 → q = 0 by omega) _ hq h1
  rcases Nat.div_eq_zero_iff.1 hq1 with h2 | h2
  · have := Nat.pow_pos (a := 2) (n := m) (by decide); omega
  · exact h2
theorem clz_loop (x : Nat) : ∀ (m n k : Nat), m ≤ 64 → n + m ≤ 64 → m < k → x < 2 ^ m → mandrelref02_One.l0 k (x : Int) (n : Int) ((m : Int) - 1) = some (((n + m - Lib.bitLen x : Nat) : Int), true) := by
  intro m
  induction m with
  | zero =>
    intro n k _ _ hk hx
    obtain ⟨k, rfl⟩ : ∃ j, k = j + 1 := ⟨k - 1, by omega⟩
    have : x = 0 := by simpa using hx
    subst this
    rw [mandrelref02_One.l0, if_neg (by omega)]
    rfl
  | succ m ih =>
    intro n k hm hn hk hx
    obtain ⟨k, rfl⟩ : ∃ j, k = j + 1 := ⟨k - 1, by omega⟩
    rw [mandrelref02_One.l0, if_pos (by omega), show ((m + 1 : Nat) : Int) - 1 = (m : Int) by omega, ref_bit x m (by omega), Option.bind_some]
    by_cases h1 : x / 2 ^ m % 2 = 1
    · rw [if_pos (by simpa using h1), top_bit x m (by omega) hx h1, show n + (m + 1) - (m + 1) = n by omega]
    · have h2 := no_top x m hx (by omega)
      rw [if_neg (by simpa using h1), w64_in (by omega) (by omega)]
      have e : IntKind.u64.wrap ((n : Int) + 1) = ((n + 1 : Nat) : Int) := by rw [u64w]; omega
      rw [e, ih (n + 1) k (by omega) (by omega) (by omega) h2, show n + 1 + m = n + (m + 1) by omega]
theorem ones_succ (f x : Nat) : ones (f + 1) x = x % 2 + ones f (x / 2) := by rw [ones]
theorem ones_none (x : Nat) : ones 0 x = 0 := by rw [ones]
theorem pop_loop (x w : Nat) (hw : w ≤ 64) : ∀ (d i n k : Nat), w - i = d → i ≤ w → n ≤ i → d < k → mandrelref02_One.l2 k (x : Int) (w : Int) (n : Int) (i : Int) = some (((n + ones d (x / 2 ^ i) : Nat) : Int), true) := by
  intro d
  induction d with
  | zero =>
    intro i n k hd hi hn hk
    obtain ⟨k, rfl⟩ : ∃ j, k = j + 1 := ⟨k - 1, by omega⟩
    rw [mandrelref02_One.l2, if_neg (by omega), ones_none, Nat.add_zero]
  | succ d ih =>
    intro i n k hd hi hn hk
    obtain ⟨k, rfl⟩ : ∃ j, k = j + 1 := ⟨k - 1, by omega⟩
    have e1 : wrap64 ((i : Int) + 1) = ((i + 1 : Nat) : Int) := by rw [w64_in (by omega) (by omega)]; omega
    have e2 : IntKind.u64.wrap ((n : Int) + 1) = ((n + 1 : Nat) : Int) := by rw [u64w]; omega
    have e3 : ones (d + 1) (x / 2 ^ i) = x / 2 ^ i % 2 + ones d (x / 2 ^ (i + 1)) := by
      rw [Nat.pow_succ, ← Nat.div_div_eq_div_mul]
      exact ones_succ d _
    rw [mandrelref02_One.l2, if_pos (by omega), ref_bit x i (by omega), Option.bind_some, e1, e2, e3]
    by_cases h1 : x / 2 ^ i % 2 = 1
    · rw [if_pos (by simpa using h1), ih (i + 1) (n + 1) k (by omega) (by omega) (by omega) (by omega), h1, Nat.add_assoc]
    · rw [if_neg (by simpa using h1), ih (i + 1) n k (by omega) (by omega) (by omega) (by omega), show x / 2 ^ i % 2 = 0 by omega, Nat.zero_add]
/-- The lowest one, or the width. -/
theorem ctz_loop (x w r : Nat) (hw : w ≤ 64) (hr : r ≤ w) (hlow : ∀ i, i < r → x / 2 ^ i % 2 = 0) (hat : r < w → x / 2 ^ r % 2 = 1) :
    ∀ (d i k : Nat), r - i = d → i ≤ r → d < k → mandrelref02_One.l1 k (x : Int) (w : Int) (i : Int) (i : Int) = some ((r : Int), true) := by
  intro d
  induction d with
  | zero =>
    intro i k hd hi hk
    obtain ⟨k, rfl⟩ : ∃ j, k = j + 1 := ⟨k - 1, by omega⟩
    obtain rfl : i = r := by omega
    rw [mandrelref02_One.l1]
    by_cases h : i < w
    · rw [if_pos (by omega), ref_bit x i (by omega), Option.bind_some, if_pos (by simpa using hat h)]
    · rw [if_neg (by omega)]
  | succ d ih =>
    intro i k hd hi hk
    obtain ⟨k, rfl⟩ : ∃ j, k = j + 1 := ⟨k - 1, by omega⟩
    have e1 : wrap64 ((i : Int) + 1) = ((i + 1 : Nat) : Int) := by rw [w64_in (by omega) (by omega)]; omega
    have e2 : IntKind.u64.wrap ((i : Int) + 1) = ((i + 1 : Nat) : Int) := by rw [u64w]; omega
    have h0 := hlow i (by omega)
    rw [mandrelref02_One.l1, if_pos (by omega), ref_bit x i (by omega), Option.bind_some, if_neg (by simp [h0]), e1, e2]
    exact ih (i + 1) k (by omega) (by omega) (by omega)
theorem ctz_spec (x w : Nat) (hw : w ≤ 64) (hx : x < 2 ^ w) : (∀ i, i < min (Lib.ctz 64 x) w → x / 2 ^ i % 2 = 0) ∧ (min (Lib.ctz 64 x) w < w → x / 2 ^ (min (Lib.ctz 64 x) w) % 2 = 1) := by
  have hx64 : x < 2 ^ 64 := Nat.lt_of_lt_of_le hx (Nat.pow_le_pow_right (by decide) hw)
  by_cases h0 : x = 0
  · subst h0
    refine ⟨fun i _ => by simp, fun h => ?_⟩
    have : Lib.ctz 64 0 = 64 := rfl
    omega
  · obtain ⟨m, hm, hk⟩ := Lib.ctzFrom_spec 64 x (by omega) hx64
    have e : Lib.ctz 64 x = Lib.ctzFrom 64 x := by simp [Lib.ctz, h0]
    rw [e]
    generalize Lib.ctzFrom 64 x = c at *
    have hc : c < w := by
      apply Nat.lt_of_not_le
      intro h
      have h2 : (2 : Nat) ^ w ≤ 2 ^ c := Nat.pow_le_pow_right (by decide) h
      have h3 := Nat.le_mul_of_pos_right (2 ^ c) (show 0 < 2 * m + 1 by omega)
      omega
    rw [Nat.min_eq_left (by omega)]
    refine ⟨fun i hi => ?_, fun _ => ?_⟩
    · have e2 : 2 ^ c = 2 ^ i * 2 ^ (c - i) := by rw [← Nat.pow_add, show i + (c - i) = c by omega]
      have e3 : 2 ^ (c - i) = 2 * 2 ^ (c - i - 1) := by rw [← Nat.pow_succ', Nat.succ_eq_add_one, show c - i - 1 + 1 = c - i by omega]
      rw [hm, e2, Nat.mul_assoc, Nat.mul_div_cancel_left _ (Nat.pow_pos (by decide)), e3, Nat.mul_assoc, Nat.mul_mod_right]
    · rw [hm, Nat.mul_div_cancel_left _ (Nat.pow_pos (by decide))]
      omega
/-- The document's answer, by the instruction's name. -/
def oneOf (name : ByteArray) (w t : Int) : Option (Int × Bool) :=
  if name.toList = ([101, 113, 122] : List UInt8) then (if t = 0 then (some (1, true)) else (some (0, true))) else (if name.toList = ([99, 108, 122] : List UInt8) then (mandrelref02_One.l0 100 t 0 (wrap64 (w - 1))) else (if name.toList = ([99, 116, 122] : List UInt8) then (mandrelref02_One.l1 100 t w 0 0) else (if name.toList = ([112, 111, 112, 99, 110, 116] : List UInt8) then (mandrelref02_One.l2 100 t w 0 0) else (if name.toList = ([119, 114, 97, 112] : List UInt8) then ((mandrelref02_low.f t 32).bind fun t234 => (some (t234, true))) else (if name.toList = ([101, 120, 116, 101, 110, 100, 95, 115] : List UInt8) then ((mandrelref02_bit.f t 31).bind fun t235 => (if t235 = true then (some (IntKind.u64.wrap (t + 18446744069414584320), true)) else (some (t, true)))) else (some (t, true)))))))
theorem ref_at (op x w : Int) (name : ByteArray) (hN : mandrelref02_Name.f 100 op = some (name, w)) (hA : mandrelref02_Alone.f name = some true) : mandrelref02_One.f 100 op x = (mandrelref02_low.f x w).bind fun t => oneOf name w t := by
  unfold mandrelref02_One.f oneOf
  rw [hN, Option.bind_some, hA, Option.bind_some, if_pos rfl]
theorem low_64 (x : Int) : mandrelref02_low.f x 64 = some x := by unfold mandrelref02_low.f; rw [if_pos rfl]
theorem low_32 (x : Int) (h : 0 ≤ x) : mandrelref02_low.f x 32 = some (x % 4294967296) := by unfold mandrelref02_low.f; rw [if_neg (by omega), Int.tmod_eq_emod_of_nonneg h]
theorem at_eqz (w t : Int) : oneOf (⟨#[101, 113, 122]⟩ : ByteArray) w t = (if t = 0 then (some (1, true)) else (some (0, true))) := by
  unfold oneOf
  rw [if_pos (by decide +kernel)]
theorem at_clz (w t : Int) : oneOf (⟨#[99, 108, 122]⟩ : ByteArray) w t = (mandrelref02_One.l0 100 t 0 (wrap64 (w - 1))) := by
  unfold oneOf
  rw [if_neg (by decide +kernel), if_pos (by decide +kernel)]
theorem at_ctz (w t : Int) : oneOf (⟨#[99, 116, 122]⟩ : ByteArray) w t = (mandrelref02_One.l1 100 t w 0 0) := by
  unfold oneOf
  rw [if_neg (by decide +kernel), if_neg (by decide +kernel), if_pos (by decide +kernel)]
theorem at_popcnt (w t : Int) : oneOf (⟨#[112, 111, 112, 99, 110, 116]⟩ : ByteArray) w t = (mandrelref02_One.l2 100 t w 0 0) := by
  unfold oneOf
  rw [if_neg (by decide +kernel), if_neg (by decide +kernel), if_neg (by decide +kernel), if_pos (by decide +kernel)]
theorem at_wrap (w t : Int) : oneOf (⟨#[119, 114, 97, 112]⟩ : ByteArray) w t = ((mandrelref02_low.f t 32).bind fun t234 => (some (t234, true))) := by
  unfold oneOf
  rw [if_neg (by decide +kernel), if_neg (by decide +kernel), if_neg (by decide +kernel), if_neg (by decide +kernel), if_pos (by decide +kernel)]
theorem at_extend_s (w t : Int) : oneOf (⟨#[101, 120, 116, 101, 110, 100, 95, 115]⟩ : ByteArray) w t = ((mandrelref02_bit.f t 31).bind fun t235 => (if t235 = true then (some (IntKind.u64.wrap (t + 18446744069414584320), true)) else (some (t, true)))) := by
  unfold oneOf
  rw [if_neg (by decide +kernel), if_neg (by decide +kernel), if_neg (by decide +kernel), if_neg (by decide +kernel), if_neg (by decide +kernel), if_pos (by decide +kernel)]
theorem at_extend_u (w t : Int) : oneOf (⟨#[101, 120, 116, 101, 110, 100, 95, 117]⟩ : ByteArray) w t = (some (t, true)) := by
  unfold oneOf
  rw [if_neg (by decide +kernel), if_neg (by decide +kernel), if_neg (by decide +kernel), if_neg (by decide +kernel), if_neg (by decide +kernel), if_neg (by decide +kernel)]
theorem ref_69 (x : Int) : mandrelref02_One.f 100 69 x = (mandrelref02_low.f x 32).bind fun t => oneOf (⟨#[101, 113, 122]⟩ : ByteArray) 32 t := ref_at 69 x 32 _ (by kernel_rfl) (by kernel_rfl)
theorem ref_80 (x : Int) : mandrelref02_One.f 100 80 x = (mandrelref02_low.f x 64).bind fun t => oneOf (⟨#[101, 113, 122]⟩ : ByteArray) 64 t := ref_at 80 x 64 _ (by kernel_rfl) (by kernel_rfl)
theorem ref_103 (x : Int) : mandrelref02_One.f 100 103 x = (mandrelref02_low.f x 32).bind fun t => oneOf (⟨#[99, 108, 122]⟩ : ByteArray) 32 t := ref_at 103 x 32 _ (by kernel_rfl) (by kernel_rfl)
theorem ref_121 (x : Int) : mandrelref02_One.f 100 121 x = (mandrelref02_low.f x 64).bind fun t => oneOf (⟨#[99, 108, 122]⟩ : ByteArray) 64 t := ref_at 121 x 64 _ (by kernel_rfl) (by kernel_rfl)
theorem ref_104 (x : Int) : mandrelref02_One.f 100 104 x = (mandrelref02_low.f x 32).bind fun t => oneOf (⟨#[99, 116, 122]⟩ : ByteArray) 32 t := ref_at 104 x 32 _ (by kernel_rfl) (by kernel_rfl)
theorem ref_122 (x : Int) : mandrelref02_One.f 100 122 x = (mandrelref02_low.f x 64).bind fun t => oneOf (⟨#[99, 116, 122]⟩ : ByteArray) 64 t := ref_at 122 x 64 _ (by kernel_rfl) (by kernel_rfl)
theorem ref_105 (x : Int) : mandrelref02_One.f 100 105 x = (mandrelref02_low.f x 32).bind fun t => oneOf (⟨#[112, 111, 112, 99, 110, 116]⟩ : ByteArray) 32 t := ref_at 105 x 32 _ (by kernel_rfl) (by kernel_rfl)
theorem ref_123 (x : Int) : mandrelref02_One.f 100 123 x = (mandrelref02_low.f x 64).bind fun t => oneOf (⟨#[112, 111, 112, 99, 110, 116]⟩ : ByteArray) 64 t := ref_at 123 x 64 _ (by kernel_rfl) (by kernel_rfl)
theorem ref_167 (x : Int) : mandrelref02_One.f 100 167 x = (mandrelref02_low.f x 64).bind fun t => oneOf (⟨#[119, 114, 97, 112]⟩ : ByteArray) 64 t := ref_at 167 x 64 _ (by kernel_rfl) (by kernel_rfl)
theorem ref_172 (x : Int) : mandrelref02_One.f 100 172 x = (mandrelref02_low.f x 32).bind fun t => oneOf (⟨#[101, 120, 116, 101, 110, 100, 95, 115]⟩ : ByteArray) 32 t := ref_at 172 x 32 _ (by kernel_rfl) (by kernel_rfl)
theorem ref_173 (x : Int) : mandrelref02_One.f 100 173 x = (mandrelref02_low.f x 32).bind fun t => oneOf (⟨#[101, 120, 116, 101, 110, 100, 95, 117]⟩ : ByteArray) 32 t := ref_at 173 x 32 _ (by kernel_rfl) (by kernel_rfl)
theorem ones_le : ∀ f x : Nat, ones f x ≤ f
  | 0, x => by rw [ones_none]; exact Nat.le_refl _
  | f + 1, x => by rw [ones_succ]; have := ones_le f (x / 2); omega
theorem bits_pop (w : Int) (x : Nat) (hx : x < 18446744073709551616) : num_wide_bits.f w 105 (x : Int) = some (ones 64 x : Int) := by
  unfold num_wide_bits.f
  rw [if_neg (by omega), if_neg (by omega), OnesCount x hx, Option.bind_some, wrapn _ (Nat.lt_of_le_of_lt (ones_le 64 x) (by decide))]
theorem bits_ctz (w x : Nat) (hx : x < 18446744073709551616) : num_wide_bits.f (w : Int) 104 (x : Int) = some ((min (Lib.ctz 64 x) w : Nat) : Int) := by
  have hc : Lib.ctz 64 x ≤ 64 := by
    by_cases h0 : x = 0
    · subst h0; decide
    · exact Nat.le_of_lt (Lib.lowest_bit 64 x h0 hx).2
  unfold num_wide_bits.f bits_TrailingZeros64.f
  rw [if_neg (by omega), if_pos (by omega), if_pos (Int.natCast_nonneg _), if_pos (by omega), Option.bind_some, Int.toNat_natCast]
  congr 1
  generalize Lib.ctz 64 x = c at *
  unfold mn
  split
  · rw [Nat.min_eq_right (by omega)]; exact wrapn w (by omega)
  · rw [Nat.min_eq_left (by omega)]; exact wrapn c (by omega)
theorem bits_clz (w x : Nat) (hw : w ≤ 64) (hx : x < 2 ^ w) (hx2 : x < 18446744073709551616) : num_wide_bits.f (w : Int) 103 (x : Int) = some ((w - Lib.bitLen x : Nat) : Int) := by
  have hb := Lib.bitLen_le x w hw hx
  unfold num_wide_bits.f bits_LeadingZeros64.f bits_Len64.f
  rw [if_pos rfl, if_pos (Int.natCast_nonneg _), if_pos (by omega), Option.bind_some, Int.toNat_natCast]
  generalize Lib.bitLen x = b at *
  have e1 : wrap64 (64 - (b : Int)) = ((64 - b : Nat) : Int) := by rw [w64_in (by omega) (by omega)]; omega
  have e2 : wrap64 (64 - (w : Int)) = ((64 - w : Nat) : Int) := by rw [w64_in (by omega) (by omega)]; omega
  have e3 : IntKind.u64.wrap (((64 - b : Nat) : Int) - ((64 - w : Nat) : Int)) = ((w - b : Nat) : Int) := by rw [u64w]; omega
  rw [e1, Option.bind_some, wrapn _ (by omega), e2, wrapn _ (by omega), e3]
theorem one_32 (op x : Int) (h0 : 103 ≤ op) (h1 : op ≤ 105) : num_One.f 100 op x = (num_wide_low.f 32 x).bind fun a => (num_wide_bits.f 32 op a).bind fun b => some (b, none) := by
  unfold num_One.f
  rw [if_neg (by omega), if_neg (by omega), if_pos (by omega), num_One.j0, if_pos (decide_eq_true h1)]
theorem one_64 (op x : Int) (h0 : 103 ≤ op) (h1 : op ≤ 105) : num_One.f 100 (op + 18) x = (num_wide_bits.f 64 op x).bind fun b => some (b, none) := by
  unfold num_One.f
  rw [if_neg (by omega), if_neg (by omega), if_pos (by omega), num_One.j0, if_neg (by simp; omega), if_pos (by omega), num_One.j1, if_pos (decide_eq_true (by omega)), show ((op + 18 - 121) % 256 + 103) % 256 = op by omega]
theorem law_ok (op x v : Int) (h1 : num_One.f 100 op x = some (v, none)) (h2 : mandrelref02_One.f 100 op x = some (v, true)) : mandrellaw02_NumOnes.f 100 op x = some true := by
  unfold mandrellaw02_NumOnes.f
  rw [h1, Option.bind_some, h2, Option.bind_some, sure 100 (by omega)]
  simp
theorem law_no (op x : Int) (h1 : num_One.f 100 op x = some (0, some 1)) (h2 : mandrelref02_One.f 100 op x = some (0, false)) : mandrellaw02_NumOnes.f 100 op x = some true := by
  unfold mandrellaw02_NumOnes.f
  rw [h1, Option.bind_some, h2, Option.bind_some, sure 100 (by omega)]
  simp [mandrellaw02_num1.f, mandrellaw02_number.f]
/-- No instruction of one operand: the document has no name for it, or one that is not alone. -/
def chk (op : Int) : Bool := match mandrelref02_Name.f 100 op with
  | some (n, _) => (match mandrelref02_Alone.f n with | some b => !b | none => false)
  | none => false
theorem chk_all : ∀ op : Fin 256, op.val ∈ [69, 80, 103, 104, 105, 121, 122, 123, 167, 172, 173] ∨ (op.val ∉ [69, 80, 103, 104, 105, 121, 122, 123, 167, 172, 173] ∧ chk (op.val : Int) = true) := by decide +kernel
theorem ref_none (op x : Int) (h : chk op = true) : mandrelref02_One.f 100 op x = some (0, false) := by
  unfold mandrelref02_One.f
  unfold chk at h
  cases hN : mandrelref02_Name.f 100 op with
  | none => rw [hN] at h; cases h
  | some r =>
    obtain ⟨n, w⟩ := r
    rw [hN] at h
    simp only at h
    rw [Option.bind_some]
    cases hA : mandrelref02_Alone.f n with
    | none => rw [hA] at h; cases h
    | some b =>
      rw [hA] at h
      cases b with
      | true => cases h
      | false => rw [Option.bind_some, if_neg (by simp)]
theorem prog_none (op x : Int) (h : ¬ (op = 69 ∨ op = 80 ∨ (103 ≤ op ∧ op ≤ 105) ∨ (121 ≤ op ∧ op ≤ 123) ∨ op = 167 ∨ op = 172 ∨ op = 173)) : num_One.f 100 op x = some (0, some 1) := by
  have j2 : ∀ k, num_One.j2 (k + 1) op x false = some (0, some 1) := by
    intro k
    rw [num_One.j2, if_neg (by simp), if_neg (by omega)]
  have j1 : ∀ k, num_One.j1 (k + 2) op x false = some (0, some 1) := by
    intro k
    rw [num_One.j1, if_neg (by simp), if_neg (by omega), show (op == 173) = false by simp; omega]
    exact j2 k
  have j0 : ∀ k, num_One.j0 (k + 3) op x false = some (0, some 1) := by
    intro k
    rw [num_One.j0, if_neg (by simp), show decide (op ≤ 123) = decide (op ≤ 123) by rfl]
    split
    · rw [decide_eq_false (by omega)]; exact j1 k
    · exact j1 k
  unfold num_One.f
  rw [if_neg (by omega), if_neg (by omega)]
  split
  · rw [decide_eq_false (by omega)]; exact j0 97
  · exact j0 97
theorem loops (w x : Nat) (hw : 1 ≤ w ∧ w ≤ 64) (hx : x < 2 ^ w) :
    mandrelref02_One.l0 100 (x : Int) 0 (wrap64 ((w : Int) - 1)) = some (((w - Lib.bitLen x : Nat) : Int), true) ∧
    mandrelref02_One.l1 100 (x : Int) (w : Int) 0 0 = some (((min (Lib.ctz 64 x) w : Nat) : Int), true) ∧
    mandrelref02_One.l2 100 (x : Int) (w : Int) 0 0 = some ((ones 64 x : Int), true) := by
  refine ⟨?_, ?_, ?_⟩
  · have h := clz_loop x w 0 100 hw.2 (by omega) (by omega) hx
    rw [Nat.zero_add] at h
    rw [w64_in (by omega) (by omega)]
    exact h
  · have hs := ctz_spec x w hw.2 hx
    exact ctz_loop x w (min (Lib.ctz 64 x) w) hw.2 (Nat.min_le_right _ _) hs.1 hs.2 (min (Lib.ctz 64 x) w) 0 100 (by omega) (by omega) (by omega)
  · have h := pop_loop x w hw.2 w 0 0 100 (by omega) (by omega) (by omega) (by omega)
    have e := ones_more w (64 - w) x hx
    rw [show w + (64 - w) = 64 by omega] at e
    rw [Nat.pow_zero, Nat.div_one, Nat.zero_add, ← e] at h
    exact h
theorem sgn (x : Int) : num_One.f 100 172 x = some (IntKind.u64.wrap (wrap64 (wrap32 x)), none) := by
  simp [num_One.f, num_One.j0, num_One.j1, num_One.j2, num_wide_signed.f]
theorem NumOnes : mandrellaw02_NumOnes.Pure := by
  intro op x hop hx
  have hop := wf_u8 hop
  have hx := wf_u64 hx
  refine ⟨100, ?_⟩
  have hlo : 0 ≤ x % 4294967296 ∧ x % 4294967296 < 4294967296 := by omega
  obtain ⟨n, hn⟩ : ∃ n : Nat, x = (n : Int) := ⟨x.toNat, by omega⟩
  have hn64 : n < 2 ^ 64 := by omega
  have hm : x % 4294967296 = ((n % 4294967296 : Nat) : Int) := by omega
  have hm32 : n % 4294967296 < 2 ^ 32 := by omega
  have low32 : num_wide_low.f 32 x = some ((n % 4294967296 : Nat) : Int) := by rw [← hm]; exact low_mod (w := 32) (W := 4294967296) (.inl ⟨rfl, rfl⟩) hx.1 hx.2
  have L32 := loops 32 (n % 4294967296) (by omega) hm32
  have L64 := loops 64 n (by omega) hn64
  rcases chk_all ⟨op.toNat, by omega⟩ with h | h
  · simp only [List.mem_cons, List.not_mem_nil, or_false] at h
    have h2 : op = 69 ∨ op = 80 ∨ op = 103 ∨ op = 104 ∨ op = 105 ∨ op = 121 ∨ op = 122 ∨ op = 123 ∨ op = 167 ∨ op = 172 ∨ op = 173 := by omega
    clear h
    rcases h2 with rfl | rfl | rfl | rfl | rfl | rfl | rfl | rfl | rfl | rfl | rfl
    · refine law_ok _ x (if x % 4294967296 = 0 then 1 else 0) ?_ ?_
      · simp [num_One.f, num_wide_low.f, num_is.f]
        by_cases h2 : x % 4294967296 = 0 <;> simp [h2]
      · rw [ref_69, low_32 x hx.1, Option.bind_some, at_eqz]
        by_cases h2 : x % 4294967296 = 0 <;> simp [h2]
    · refine law_ok _ x (if x = 0 then 1 else 0) ?_ ?_
      · simp [num_One.f, num_is.f]
        by_cases h2 : x = 0 <;> simp [h2]
      · rw [ref_80, low_64, Option.bind_some, at_eqz]
        by_cases h2 : x = 0 <;> simp [h2]
    · have b : num_wide_bits.f 32 103 ((n % 4294967296 : Nat) : Int) = some ((32 - Lib.bitLen (n % 4294967296) : Nat) : Int) := bits_clz 32 _ (by omega) hm32 (by omega)
      refine law_ok _ x ((32 - Lib.bitLen (n % 4294967296) : Nat) : Int) ((one_32 103 x (by omega) (by omega)).trans ?_) ?_
      · rw [low32, Option.bind_some, b, Option.bind_some]
      · rw [ref_103, low_32 x hx.1, Option.bind_some, at_clz, hm]; exact L32.1
    · have b : num_wide_bits.f 32 104 ((n % 4294967296 : Nat) : Int) = some ((min (Lib.ctz 64 (n % 4294967296)) 32 : Nat) : Int) := bits_ctz 32 _ (by omega)
      refine law_ok _ x ((min (Lib.ctz 64 (n % 4294967296)) 32 : Nat) : Int) ((one_32 104 x (by omega) (by omega)).trans ?_) ?_
      · rw [low32, Option.bind_some, b, Option.bind_some]
      · rw [ref_104, low_32 x hx.1, Option.bind_some, at_ctz, hm]; exact L32.2.1
    · have b : num_wide_bits.f 32 105 ((n % 4294967296 : Nat) : Int) = some ((ones 64 (n % 4294967296) : Nat) : Int) := bits_pop 32 _ (by omega)
      refine law_ok _ x ((ones 64 (n % 4294967296) : Nat) : Int) ((one_32 105 x (by omega) (by omega)).trans ?_) ?_
      · rw [low32, Option.bind_some, b, Option.bind_some]
      · rw [ref_105, low_32 x hx.1, Option.bind_some, at_popcnt, hm]; exact L32.2.2
    · have b : num_wide_bits.f 64 103 (n : Int) = some ((64 - Lib.bitLen n : Nat) : Int) := bits_clz 64 _ (by omega) hn64 (by omega)
      refine law_ok _ x ((64 - Lib.bitLen n : Nat) : Int) ((one_64 103 x (by omega) (by omega)).trans ?_) ?_
      · rw [hn, b, Option.bind_some]
      · rw [ref_121, low_64, Option.bind_some, at_clz, hn]; exact L64.1
    · have b : num_wide_bits.f 64 104 (n : Int) = some ((min (Lib.ctz 64 n) 64 : Nat) : Int) := bits_ctz 64 _ (by omega)
      refine law_ok _ x ((min (Lib.ctz 64 n) 64 : Nat) : Int) ((one_64 104 x (by omega) (by omega)).trans ?_) ?_
      · rw [hn, b, Option.bind_some]
      · rw [ref_122, low_64, Option.bind_some, at_ctz, hn]; exact L64.2.1
    · have b : num_wide_bits.f 64 105 (n : Int) = some ((ones 64 n : Nat) : Int) := bits_pop 64 _ (by omega)
      refine law_ok _ x ((ones 64 n : Nat) : Int) ((one_64 105 x (by omega) (by omega)).trans ?_) ?_
      · rw [hn, b, Option.bind_some]
      · rw [ref_123, low_64, Option.bind_some, at_popcnt, hn]; exact L64.2.2
    · refine law_ok _ x (x % 4294967296) ?_ ?_
      · simp [num_One.f, num_One.j0, num_One.j1, num_One.j2, num_wide_low.f]
      · rw [ref_167, low_64, Option.bind_some, at_wrap, low_32 x hx.1, Option.bind_some]
    · have b : mandrelref02_bit.f ((n % 4294967296 : Nat) : Int) 31 = some (n % 4294967296 / 2 ^ 31 % 2 == 1) := ref_bit _ 31 (by omega)
      refine law_ok _ x _ (sgn x) ?_
      rw [ref_172, low_32 x hx.1, Option.bind_some, at_extend_s, hm, b, Option.bind_some]
      by_cases h2 : n % 4294967296 / 2 ^ 31 % 2 = 1
      · have e : IntKind.u64.wrap (((n % 4294967296 : Nat) : Int) + 18446744069414584320) = IntKind.u64.wrap (wrap64 (wrap32 x)) := by
          rw [u64w, u64w]; unfold wrap64 wrap32; omega
        rw [if_pos (by simpa using h2), e]
      · have e : IntKind.u64.wrap (wrap64 (wrap32 x)) = ((n % 4294967296 : Nat) : Int) := by
          rw [u64w]; unfold wrap64 wrap32; omega
        rw [if_neg (by simpa using h2), e]
    · refine law_ok _ x (x % 4294967296) ?_ ?_
      · simp [num_One.f, num_One.j0, num_One.j1, num_One.j2, num_wide_low.f]
      · rw [ref_173, low_32 x hx.1, Option.bind_some, at_extend_u]
  · refine law_no op x (prog_none op x ?_) (ref_none op x ?_)
    · have h1 := h.1
      simp only [List.mem_cons, List.not_mem_nil, or_false] at h1
      omega
    · have e : ((op.toNat : Nat) : Int) = op := by omega
      rw [← e]; exact h.2
end Go.Proofs.YtkpafgnchdohaaaDoor.Pure
