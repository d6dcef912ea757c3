/- NumTwos: signs, comparisons, quotients of the document's answer. -/
import Derived.Test.YtkpafgnchdohaaaDoorTwoNames
import Derived.Test.YtkpafgnchdohaaaDoorXNx9
namespace Go.Proofs.YtkpafgnchdohaaaDoor.Pure
open Go Go.RowKit Go.Proofs.YtkpafgnchdohaaaDoor.Num Go.Proofs.YtkpafgnchdohaaaDoor.XN Go.Proofs.YtkpafgnchdohaaaDoorW.PrintWords Go.Proofs.YtkpafgnchdohaaaDoorW.PrintLast Go.Proofs.YtkpafgnchdohaaaDoorW.PrintMore

theorem ref_low {w W : Int} (hw : Wide w W) (x : Int) (h0 : 0 ≤ x) (h1 : x < 18446744073709551616) : mandrelref02_low.f x w = some (x % W) := by
  unfold mandrelref02_low.f
  rcases hw with ⟨rfl, rfl⟩ | ⟨rfl, rfl⟩
  · rw [if_neg (by omega), Int.tmod_eq_emod_of_nonneg h0]
  · rw [if_pos rfl, Int.emod_eq_of_lt h0 h1]
theorem ref_neg {w W : Int} (hw : Wide w W) (x : Int) (h0 : 0 ≤ x) (h1 : x < W) : mandrelref02_negative.f x w = some (decide (W ≤ 2 * x)) := by
  obtain ⟨n, rfl⟩ : ∃ n : Nat, x = (n : Int) := ⟨x.toNat, by omega⟩
  unfold mandrelref02_negative.f
  rcases hw with ⟨rfl, rfl⟩ | ⟨rfl, rfl⟩
  · have hb : mandrelref02_bit.f (n : Int) 31 = some (n / 2 ^ 31 % 2 == 1) := ref_bit n 31 (by omega)
    rw [w64_in (by omega) (by omega), show (32 : Int) - 1 = 31 by omega, hb, Option.bind_some]
    by_cases h : n / 2 ^ 31 % 2 = 1
    · rw [show (n / 2 ^ 31 % 2 == 1) = true by simpa using h, decide_eq_true (by omega)]
    · rw [show (n / 2 ^ 31 % 2 == 1) = false by simpa using h, decide_eq_false (by omega)]
  · have hb : mandrelref02_bit.f (n : Int) 63 = some (n / 2 ^ 63 % 2 == 1) := ref_bit n 63 (by omega)
    rw [w64_in (by omega) (by omega), show (64 : Int) - 1 = 63 by omega, hb, Option.bind_some]
    by_cases h : n / 2 ^ 63 % 2 = 1
    · rw [show (n / 2 ^ 63 % 2 == 1) = true by simpa using h, decide_eq_true (by omega)]
    · rw [show (n / 2 ^ 63 % 2 == 1) = false by simpa using h, decide_eq_false (by omega)]
/-- How far from 0. -/
def aw (W x : Int) : Int := if W ≤ 2 * x then W - x else x
theorem ref_away {w W : Int} (hw : Wide w W) (x : Int) (h0 : 0 ≤ x) (h1 : x < W) : mandrelref02_away.f x w = some (aw W x) := by
  unfold mandrelref02_away.f aw
  rw [ref_neg hw x h0 h1, Option.bind_some]
  by_cases h : W ≤ 2 * x
  · have hb := wrap_bounds (-x)
    rw [decide_eq_true h, if_pos rfl, ref_low hw _ hb.1 hb.2, Option.bind_some, wrap_mod hw, if_pos h]
    congr 1
    rcases hw with ⟨rfl, rfl⟩ | ⟨rfl, rfl⟩ <;> omega
  · rw [decide_eq_false h, if_neg (by simp), if_neg h]
theorem ref_less {w W : Int} (hw : Wide w W) (a b : Int) (a0 : 0 ≤ a) (a1 : a < W) (b0 : 0 ≤ b) (b1 : b < W) : mandrelref02_less.f a b w = some (decide (sg W a < sg W b)) := by
  unfold mandrelref02_less.f sg
  rw [ref_neg hw a a0 a1, Option.bind_some, ref_neg hw b b0 b1, Option.bind_some]
  by_cases ha : W ≤ 2 * a <;> by_cases hb : W ≤ 2 * b
  · rw [decide_eq_true ha, decide_eq_true hb, if_neg (by simp), if_neg (by omega), if_neg (by omega)]
    congr 1; exact decide_eq_decide.2 (by omega)
  · rw [decide_eq_true ha, decide_eq_false hb, if_pos (by simp), if_neg (by omega), if_pos (by omega)]
    congr 1; exact (decide_eq_true (by omega)).symm
  · rw [decide_eq_false ha, decide_eq_true hb, if_pos (by simp), if_pos (by omega), if_neg (by omega)]
    congr 1; exact (decide_eq_false (by omega)).symm
  · rw [decide_eq_false ha, decide_eq_false hb, if_neg (by simp), if_pos (by omega), if_pos (by omega)]
theorem sg_aw (W x : Int) : sg W x = if W ≤ 2 * x then -(aw W x) else aw W x := by
  unfold sg aw
  split <;> split <;> omega
theorem aw_bounds {W : Int} (x : Int) (h0 : 0 ≤ x) (h1 : x < W) : 0 ≤ aw W x ∧ 2 * aw W x ≤ W := by
  unfold aw; split <;> omega
theorem big_q (A B W : Int) (hA : 0 ≤ A) (hA2 : 2 * A ≤ W) (hB : 0 < B) (hW : 4 ≤ W) : W ≤ 2 * (A / B) ↔ B = 1 ∧ 2 * A = W := by
  have hq0 : 0 ≤ A / B := Int.ediv_nonneg hA (by omega)
  have hq1 : A / B ≤ A := Int.ediv_le_self _ hA
  constructor
  · intro h
    have hB1 : B = 1 := by
      apply Classical.byContradiction
      intro hne
      have h2 : 2 * (A / B) ≤ B * (A / B) := Int.mul_le_mul_of_nonneg_right (by omega) hq0
      have h3 := Int.mul_ediv_self_le (x := A) (k := B) (by omega)
      omega
    exact ⟨hB1, by omega⟩
  · intro ⟨h1, h2⟩
    rw [h1, Int.ediv_one]; omega
theorem ref_divs {w W : Int} (hw : Wide w W) (a b : Int) (a0 : 0 ≤ a) (a1 : a < W) (b0 : 0 < b) (b1 : b < W) :
    mandrelref02_divided.f (⟨#[100, 105, 118, 95, 115]⟩ : ByteArray) a b w = some (if sg W b = -1 ∧ sg W a = -(W / 2) then (0, 3) else (Int.tdiv (sg W a) (sg W b) % W, 0)) := by
  have hWle := hw.le
  have hW4 : 4 ≤ W ∧ W % 2 = 0 := by rcases hw with ⟨_, rfl⟩ | ⟨_, rfl⟩ <;> omega
  have hA := aw_bounds a a0 a1
  have hB := aw_bounds b (by omega) b1
  have hB0 : 0 < aw W b := by unfold aw; split <;> omega
  have sa := sg_aw W a
  have sb := sg_aw W b
  unfold mandrelref02_divided.f
  rw [if_neg (by omega), if_neg (by decide +kernel), if_neg (by decide +kernel), if_neg (by decide +kernel), ref_away hw a a0 a1, Option.bind_some, ref_away hw b (by omega) b1, Option.bind_some, if_neg (by omega),
    ref_neg hw a a0 a1, Option.bind_some, ref_neg hw b (by omega) b1, Option.bind_some]
  generalize aw W a = A at *
  generalize aw W b = B at *
  have hq0 : 0 ≤ A / B := Int.ediv_nonneg hA.1 hB.1
  have hq1 : A / B ≤ A := Int.ediv_le_self _ hA.1
  have hbig := big_q A B W hA.1 hA.2 hB0 hW4.1
  have et : Int.tdiv A B = A / B := Int.tdiv_eq_ediv_of_nonneg hA.1
  have eq : IntKind.u64.wrap (A / B) = A / B := by rw [u64w]; exact Int.emod_eq_of_lt hq0 (by omega)
  rw [et, eq]
  generalize hqq : A / B = q at *
  have hb := wrap_bounds (-q)
  have neq : q % W = q := Int.emod_eq_of_lt hq0 (by omega)
  by_cases ha : W ≤ 2 * a <;> by_cases hb2 : W ≤ 2 * b
  · rw [if_pos ha] at sa
    rw [if_pos hb2] at sb
    rw [decide_eq_true ha, decide_eq_true hb2, if_neg (by simp), ref_neg hw q hq0 (by omega), Option.bind_some, sa, sb, Int.tdiv_neg, Int.neg_tdiv, Int.neg_neg, et, neq]
    by_cases h : W ≤ 2 * q
    · have := hbig.1 h
      rw [decide_eq_true h, if_pos rfl, if_pos (by omega)]
    · rw [decide_eq_false h, if_neg (by simp), if_neg (fun h2 => h (hbig.2 (by omega)))]
  · rw [if_pos ha] at sa
    rw [if_neg hb2] at sb
    rw [decide_eq_true ha, decide_eq_false hb2, if_pos (by simp), ref_low hw _ hb.1 hb.2, Option.bind_some, wrap_mod hw, sa, sb, Int.neg_tdiv, et, if_neg (by omega)]
  · rw [if_neg ha] at sa
    rw [if_pos hb2] at sb
    rw [decide_eq_false ha, decide_eq_true hb2, if_pos (by simp), ref_low hw _ hb.1 hb.2, Option.bind_some, wrap_mod hw, sa, sb, Int.tdiv_neg, et, if_neg (by omega)]
  · rw [if_neg ha] at sa
    rw [if_neg hb2] at sb
    have ea : sg W a = a := by unfold sg; rw [if_pos (by omega)]
    have eA : A = a := sa.symm.trans ea
    have h2a : ¬ W ≤ 2 * q := by omega
    rw [decide_eq_false ha, decide_eq_false hb2, if_neg (by simp), ref_neg hw q hq0 (by omega), Option.bind_some, decide_eq_false h2a, if_neg (by simp), sa, sb, et, if_neg (by omega), neq]
theorem ref_rems {w W : Int} (hw : Wide w W) (a b : Int) (a0 : 0 ≤ a) (a1 : a < W) (b0 : 0 < b) (b1 : b < W) :
    mandrelref02_divided.f (⟨#[114, 101, 109, 95, 115]⟩ : ByteArray) a b w = some (Int.tmod (sg W a) (sg W b) % W, 0) := by
  have hWle := hw.le
  have hA := aw_bounds a a0 a1
  have hB := aw_bounds b (by omega) b1
  have hB0 : 0 < aw W b := by unfold aw; split <;> omega
  have sa := sg_aw W a
  have sb := sg_aw W b
  unfold mandrelref02_divided.f
  rw [if_neg (by omega), if_neg (by decide +kernel), if_neg (by decide +kernel), if_pos (by decide +kernel), ref_away hw a a0 a1, Option.bind_some, ref_away hw b (by omega) b1, Option.bind_some, if_neg (by omega),
    ref_neg hw a a0 a1, Option.bind_some]
  generalize aw W a = A at *
  generalize aw W b = B at *
  have hr0 := Int.emod_nonneg A (show B ≠ 0 by omega)
  have hr1 := Int.emod_lt_of_pos A hB0
  have et : Int.tmod A B = A % B := Int.tmod_eq_emod_of_nonneg hA.1
  have em : ∀ c, Int.tmod c (sg W b) = Int.tmod c B := by
    intro c
    rw [sb]; split
    · rw [Int.tmod_neg]
    · rfl
  rw [em, et]
  have hb := wrap_bounds (-(A % B))
  by_cases ha : W ≤ 2 * a
  · rw [if_pos ha] at sa
    rw [decide_eq_true ha, if_pos rfl, ref_low hw _ hb.1 hb.2, Option.bind_some, wrap_mod hw, sa, Int.neg_tmod, et]
  · rw [if_neg ha] at sa
    rw [decide_eq_false ha, if_neg (by simp), sa, et, Int.emod_eq_of_lt hr0 (by omega)]
theorem ref_divu {w : Int} (a b : Int) (a0 : 0 ≤ a) (a1 : a < 18446744073709551616) (b0 : 0 < b) :
    mandrelref02_divided.f (⟨#[100, 105, 118, 95, 117]⟩ : ByteArray) a b w = some (a / b, 0) := by
  have hq0 : 0 ≤ a / b := Int.ediv_nonneg a0 (by omega)
  have hq1 : a / b ≤ a := Int.ediv_le_self _ a0
  unfold mandrelref02_divided.f
  rw [if_neg (by omega), if_pos (by decide +kernel), Int.tdiv_eq_ediv_of_nonneg a0, u64w, Int.emod_eq_of_lt hq0 (by omega)]
theorem ref_remu {w : Int} (a b : Int) (a0 : 0 ≤ a) (b0 : 0 < b) : mandrelref02_divided.f (⟨#[114, 101, 109, 95, 117]⟩ : ByteArray) a b w = some (a % b, 0) := by
  unfold mandrelref02_divided.f
  rw [if_neg (by omega), if_neg (by decide +kernel), if_pos (by decide +kernel), Int.tmod_eq_emod_of_nonneg a0]
theorem ref_div0 (name : ByteArray) (a w : Int) : mandrelref02_divided.f name a 0 w = some (0, 2) := by
  unfold mandrelref02_divided.f
  rw [if_pos rfl]
end Go.Proofs.YtkpafgnchdohaaaDoor.Pure
