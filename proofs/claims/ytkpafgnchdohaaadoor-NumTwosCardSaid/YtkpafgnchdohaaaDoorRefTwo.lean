/- The document's answer for two operands, bit by bit: what it makes. -/
import Derived.Test.YtkpafgnchdohaaaDoorTurns
import Derived.Test.YtkpafgnchdohaaaDoorPureNumOnes
import Derived.Test.YtkpafgnchdohaaaDoorXNx9
namespace Go.Proofs.YtkpafgnchdohaaaDoor.Num
open Go Go.RowKit Go.Proofs.YtkpafgnchdohaaaDoor.Pure Go.Proofs.YtkpafgnchdohaaaDoor.XN Go.Proofs.YtkpafgnchdohaaaDoorW.PrintWords Go.Proofs.YtkpafgnchdohaaaDoorW.PrintLast Go.Proofs.YtkpafgnchdohaaaDoorW.PrintMore

theorem ref_tbit (x i : Nat) (h : i ≤ 64) : mandrelref02_bit.f (x : Int) (i : Int) = some (x.testBit i) := by
  rw [ref_bit x i h, Nat.testBit_eq_decide_div_mod_eq]
  congr 1
theorem half (t i : Nat) : t / 2 ^ i = 2 * (t / 2 ^ (i + 1)) + (t.testBit i).toNat := by
  rw [Nat.pow_succ, ← Nat.div_div_eq_div_mul, Nat.testBit_eq_decide_div_mod_eq]
  generalize t / 2 ^ i = q
  have : q % 2 = 0 ∨ q % 2 = 1 := by omega
  rcases this with h | h <;> rw [h] <;> simp <;> omega
theorem rdOf_map (g : Nat → Bool) (w i : Nat) (h : i < w) : rdOf false ((List.range w).map g) (i : Int) = g i := by
  unfold rdOf
  rw [Int.toNat_natCast]
  simp [List.getD, h]
theorem made_l0 (v w : Nat) (hw : w ≤ 64) (hv : v < 2 ^ w) : ∀ (i k : Nat), i ≤ w → i < k → mandrelref02_made.l0 k ((List.range w).map v.testBit) ((v / 2 ^ i : Nat) : Int) ((i : Int) - 1) = some (v : Int) := by
  have hv64 : v < 18446744073709551616 := Nat.lt_of_lt_of_le hv (Nat.pow_le_pow_right (by decide) hw)
  intro i
  induction i with
  | zero =>
    intro k _ hk
    obtain ⟨k, rfl⟩ : ∃ j, k = j + 1 := ⟨k - 1, by omega⟩
    rw [mandrelref02_made.l0, if_neg (by omega), Nat.pow_zero, Nat.div_one]
  | succ i ih =>
    intro k hi hk
    obtain ⟨k, rfl⟩ : ∃ j, k = j + 1 := ⟨k - 1, by omega⟩
    have e1 : ((i + 1 : Nat) : Int) - 1 = (i : Int) := by omega
    have e2 : wrap64 ((i : Int) - 1) = (i : Int) - 1 := w64_in (by omega) (by omega)
    have hl : ((List.range w).map v.testBit).length = w := by simp
    have hh := half v i
    have hq : v / 2 ^ i ≤ v := Nat.div_le_self _ _
    have ih2 := ih k (by omega) (by omega)
    rw [mandrelref02_made.l0, e1, if_pos (by omega), if_pos (by omega), if_pos (by rw [hl]; omega), rdOf_map _ _ _ (by omega), e2]
    generalize v / 2 ^ (i + 1) = q at *
    generalize v / 2 ^ i = p at *
    cases hb : v.testBit i with
    | true =>
      rw [hb] at hh
      have e3 : IntKind.u64.wrap (IntKind.u64.wrap (2 * (q : Int)) + 1) = (p : Int) := by
        rw [u64w, u64w]; simp at hh; omega
      rw [if_pos rfl, e3, ih2]
    | false =>
      rw [hb] at hh
      have e3 : IntKind.u64.wrap (2 * (q : Int)) = (p : Int) := by
        rw [u64w]; simp at hh; omega
      rw [if_neg (by simp), e3, ih2]
theorem made_f (v w : Nat) (hw : w ≤ 64) (hw1 : 1 ≤ w) (hv : v < 2 ^ w) (g : Nat → Bool) (hg : ∀ i, i < w → g i = v.testBit i) (k : Nat) (hk : 65 ≤ k) : mandrelref02_made.f k ((List.range w).map g) = some (v : Int) := by
  have e : (List.range w).map g = (List.range w).map v.testBit := by
    apply List.map_congr_left
    intro i hi
    exact hg i (List.mem_range.1 hi)
  have hl : ((List.range w).map v.testBit).length = w := by simp
  have h := made_l0 v w hw hv w k (Nat.le_refl _) (by omega)
  rw [Nat.div_eq_of_lt hv] at h
  unfold mandrelref02_made.f
  rw [e, hl, w64_in (by omega) (by omega)]
  exact h
/-- A loop that lays one bit after another. -/
theorem lay_loop {α : Type} (F : Nat → List Bool → Int → Option α) (w : Nat) (hw : w ≤ 64) (g : Nat → Bool)
    (hs : ∀ i k (l : List Bool), i < w → l.length = i → F (k + 1) l (i : Int) = F k (l ++ [g i]) ((i + 1 : Nat) : Int)) :
    ∀ (d i k : Nat), w - i = d → i ≤ w → d ≤ k → F k ((List.range i).map g) (i : Int) = F (k - d) ((List.range w).map g) (w : Int) := by
  intro d
  induction d with
  | zero =>
    intro i k hd hi _
    obtain rfl : i = w := by omega
    rfl
  | succ d ih =>
    intro i k hd hi hk
    obtain ⟨k, rfl⟩ : ∃ j, k = j + 1 := ⟨k - 1, by omega⟩
    rw [hs i k _ (by omega) (by simp)]
    have e : (List.range i).map g ++ [g i] = (List.range (i + 1)).map g := by rw [List.range_succ, List.map_append]; rfl
    rw [e, ih (i + 1) k (by omega) (by omega) (by omega), show k + 1 - (d + 1) = k - d by omega]
/-! the bits of what is moved -/
theorem shl_bits (w r x i : Nat) (h : i < w) : (x * 2 ^ r % 2 ^ w).testBit i = if r ≤ i then x.testBit (i - r) else false := by
  rw [Nat.testBit_mod_two_pow, Nat.testBit_mul_two_pow]
  by_cases h2 : r ≤ i <;> simp [h, h2]
theorem rot_bits (w r x i : Nat) (hr : r < w) (h : i < w) (hx : x < 2 ^ w) : (rot w r x).testBit i = x.testBit ((i + w - r) % w) := by
  have h1 := hi_lt w r x (by omega) hx
  unfold rot
  rw [Nat.testBit_two_pow_mul_add _ h1]
  by_cases h2 : i < r
  · rw [if_pos h2, Nat.testBit_div_two_pow, Nat.mod_eq_of_lt (show i + w - r < w by omega)]
    congr 1; omega
  · rw [if_neg h2, Nat.testBit_mod_two_pow, show (i + w - r) % w = i - r by rw [show i + w - r = i - r + w by omega, Nat.add_mod_right, Nat.mod_eq_of_lt (by omega)]]
    simp; omega
theorem rotr_bits (w r x i : Nat) (hr : r < w) (h : i < w) (hx : x < 2 ^ w) : (rot w ((w - r) % w) x).testBit i = x.testBit ((i + r) % w) := by
  rw [rot_bits w _ x i (Nat.mod_lt _ (by omega)) h hx]
  congr 1
  by_cases h0 : r = 0
  · subst h0; rw [Nat.sub_zero, Nat.mod_self]; simp
  · rw [Nat.mod_eq_of_lt (show w - r < w by omega)]
    congr 1; omega
/-- A number with a sign, moved down. -/
def sar (w r x : Nat) : Nat := if x < 2 ^ (w - 1) then x / 2 ^ r else 2 ^ (w - r) * (2 ^ r - 1) + x / 2 ^ r
theorem div_lt' (w r x : Nat) (hr : r ≤ w) (hx : x < 2 ^ w) : x / 2 ^ r < 2 ^ (w - r) := by
  have := hi_lt w (w - r) x (by omega) hx
  rw [show w - (w - r) = r by omega] at this
  exact this
theorem sar_bits (w r x i : Nat) (hr : r < w) (h : i < w) (hx : x < 2 ^ w) : (sar w r x).testBit i = x.testBit (min (i + r) (w - 1)) := by
  have h1 := div_lt' w r x (by omega) hx
  unfold sar
  by_cases h2 : x < 2 ^ (w - 1)
  · rw [if_pos h2, Nat.testBit_div_two_pow]
    by_cases h3 : i + r ≤ w - 1
    · rw [Nat.min_eq_left h3, Nat.add_comm]
    · rw [Nat.min_eq_right (by omega), Nat.testBit_lt_two_pow h2, Nat.testBit_lt_two_pow (Nat.lt_of_lt_of_le h2 (Nat.pow_le_pow_right (by decide) (by omega)))]
  · have htop : x.testBit (w - 1) = true := by
      rw [Nat.testBit_eq_decide_div_mod_eq]
      have e : (2 : Nat) ^ w = 2 ^ (w - 1) * 2 := by rw [← Nat.pow_succ, Nat.succ_eq_add_one, show w - 1 + 1 = w by omega]
      have hp : 0 < 2 ^ (w - 1) := Nat.pow_pos (by decide)
      have q1 : x / 2 ^ (w - 1) < 2 := Nat.div_lt_of_lt_mul (by rw [← e]; exact hx)
      have q2 : 1 ≤ x / 2 ^ (w - 1) := (Nat.le_div_iff_mul_le hp).2 (by omega)
      rw [show x / 2 ^ (w - 1) = 1 from (show ∀ q : Nat, q < 2 → 1 ≤ q → q = 1 by omega) _ q1 q2]
      rfl
    rw [if_neg h2, Nat.testBit_two_pow_mul_add _ h1]
    by_cases h3 : i < w - r
    · rw [if_pos h3, Nat.testBit_div_two_pow, Nat.min_eq_left (by omega), Nat.add_comm]
    · rw [if_neg h3, Nat.testBit_two_pow_sub_one, Nat.min_eq_right (by omega), htop]
      simp; omega
theorem sar_lt (w r x : Nat) (hr : r ≤ w) (hx : x < 2 ^ w) : sar w r x < 2 ^ w := by
  have h1 := div_lt' w r x hr hx
  unfold sar
  split
  · exact Nat.lt_of_le_of_lt (Nat.div_le_self _ _) hx
  · have hp : 0 < 2 ^ r := Nat.pow_pos (by decide)
    rw [pow_add' w r hr, Nat.mul_sub, Nat.mul_one]
    have := Nat.le_mul_of_pos_right (2 ^ (w - r)) hp
    omega
theorem bits_xor_nat (a b : Nat) (ha : a < 18446744073709551616) (hb : b < 18446744073709551616) : bits .xor .u64 (a : Int) (b : Int) = ((a ^^^ b : Nat) : Int) := by
  have hx : a ^^^ b < 2 ^ 64 := Nat.xor_lt_two_pow (by omega) (by omega)
  have h1 : (BitVec.ofInt 64 (a : Int)).toNat = a := by
    rw [BitVec.ofInt_natCast, BitVec.toNat_ofNat]; exact Nat.mod_eq_of_lt (by omega)
  have h2 : (BitVec.ofInt 64 (b : Int)).toNat = b := by
    rw [BitVec.ofInt_natCast, BitVec.toNat_ofNat]; exact Nat.mod_eq_of_lt (by omega)
  show IntKind.u64.wrap ((BitVec.ofInt 64 (a : Int) ^^^ BitVec.ofInt 64 (b : Int)).toNat : Int) = _
  rw [BitVec.toNat_xor, h1, h2, IntKind.wrap_u64]
  omega
end Go.Proofs.YtkpafgnchdohaaaDoor.Num
