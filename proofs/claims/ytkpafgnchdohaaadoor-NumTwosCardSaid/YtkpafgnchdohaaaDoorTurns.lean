/- Shifts and turns of the width: plain arithmetic, then the printed form. -/
import Derived.Test.YtkpafgnchdohaaaDoorOnes

namespace Go.Proofs.YtkpafgnchdohaaaDoor.Num
open Go Go.RowKit Go.Proofs.YtkpafgnchdohaaaDoor.XN Go.Proofs.YtkpafgnchdohaaaDoorW.PrintWords Go.Proofs.YtkpafgnchdohaaaDoorW.PrintLast Go.Proofs.YtkpafgnchdohaaaDoorW.PrintMore

/-- Turned to the upper side by r of w places. -/
def rot (w r x : Nat) : Nat := 2 ^ r * (x % 2 ^ (w - r)) + x / 2 ^ (w - r)
theorem pow_add' (w r : Nat) (h : r ≤ w) : 2 ^ w = 2 ^ (w - r) * 2 ^ r := by rw [← Nat.pow_add, show w - r + r = w by omega]
theorem hi_lt (w r x : Nat) (h : r ≤ w) (hx : x < 2 ^ w) : x / 2 ^ (w - r) < 2 ^ r := by
  rw [pow_add' w r h] at hx
  exact Nat.div_lt_of_lt_mul hx
theorem rot_lt (w r x : Nat) (h : r ≤ w) (hx : x < 2 ^ w) : rot w r x < 2 ^ w := by
  unfold rot
  have h1 := hi_lt w r x h hx
  have h2 : x % 2 ^ (w - r) < 2 ^ (w - r) := Nat.mod_lt _ (Nat.pow_pos (by decide))
  rw [pow_add' w r h, Nat.mul_comm (2 ^ (w - r))]
  have h3 := Nat.mul_le_mul_left (2 ^ r) (show x % 2 ^ (w - r) + 1 ≤ 2 ^ (w - r) from h2)
  rw [Nat.mul_add, Nat.mul_one] at h3
  omega
theorem rot_back (w r x : Nat) (h : r < w) (hx : x < 2 ^ w) : rot w ((w - r) % w) (rot w r x) = x := by
  by_cases h0 : r = 0
  · subst h0
    rw [Nat.sub_zero, Nat.mod_self]
    have e : ∀ y, y < 2 ^ w → rot w 0 y = y := by
      intro y hy
      unfold rot
      rw [Nat.sub_zero, Nat.pow_zero, Nat.one_mul, Nat.mod_eq_of_lt hy, Nat.div_eq_of_lt hy]
      rfl
    rw [e x hx, e x hx]
  · rw [Nat.mod_eq_of_lt (show w - r < w by omega)]
    have h1 := hi_lt w r x (by omega) hx
    unfold rot
    rw [show w - (w - r) = r by omega, Nat.mul_add_mod, Nat.mod_eq_of_lt h1, Nat.mul_add_div (Nat.pow_pos (by decide)), Nat.div_eq_of_lt h1, Nat.add_zero]
    exact Nat.div_add_mod x _
theorem rot_ones (w r x : Nat) (h : r ≤ w) (h64 : w ≤ 64) (hx : x < 2 ^ w) : ones 64 (rot w r x) = ones 64 x := by
  have h1 := hi_lt w r x h hx
  have h2 : x % 2 ^ (w - r) < 2 ^ (w - r) := Nat.mod_lt _ (Nat.pow_pos (by decide))
  have e1 : ones 64 (rot w r x) = ones w (rot w r x) := by
    have := ones_more w (64 - w) _ (rot_lt w r x h hx)
    rw [show w + (64 - w) = 64 by omega] at this
    exact this
  have e2 : ones 64 x = ones w x := by
    have := ones_more w (64 - w) _ hx
    rw [show w + (64 - w) = 64 by omega] at this
    exact this
  have e3 := ones_add r (w - r) (x % 2 ^ (w - r)) _ h1
  have e4 := ones_add (w - r) r (x / 2 ^ (w - r)) _ h2
  rw [show r + (w - r) = w by omega] at e3
  rw [show w - r + r = w by omega, Nat.div_add_mod] at e4
  rw [e1, e2, e4]
  unfold rot
  rw [e3]
  omega
/-- 'shl', 'shr' at a word, by less than 64 or by all. -/
theorem shl_nat (x r : Nat) (h : r ≤ 64) : shl .u64 (x : Int) (r : Int) = ((x * 2 ^ r % 18446744073709551616 : Nat) : Int) := by
  unfold shl
  rw [u64w, Int.toNat_natCast, Nat.min_eq_left (show r ≤ IntKind.u64.bits from h)]
  simp
theorem shr_nat (x r : Nat) (h : r ≤ 64) : shr .u64 (x : Int) (r : Int) = ((x / 2 ^ r : Nat) : Int) := by
  unfold shr
  rw [Int.toNat_natCast, Nat.min_eq_left (show r ≤ IntKind.u64.bits from h)]
  simp
theorem pow_dvd (w : Nat) (h : w ≤ 64) : 2 ^ w ∣ 18446744073709551616 := ⟨2 ^ (64 - w), by rw [← Nat.pow_add, show w + (64 - w) = 64 by omega]⟩
/-- A word that is turned, before its lower part is taken. -/
theorem turned (w r x : Nat) (h : r ≤ w) (h64 : w ≤ 64) (hx : x < 2 ^ w) :
    ∃ t : Nat, Go.bits .or .u64 (shl .u64 (x : Int) (r : Int)) (shr .u64 (x : Int) ((w - r : Nat) : Int)) = (t : Int) ∧ t < 18446744073709551616 ∧ t % 2 ^ w = rot w r x := by
  have h1 := hi_lt w r x h hx
  have hw : 2 ^ w ≤ 2 ^ 64 := Nat.pow_le_pow_right (by decide) h64
  have hd := pow_dvd r (by omega)
  have hm : x * 2 ^ r % 18446744073709551616 = 2 ^ r * (x * 2 ^ r % 18446744073709551616 / 2 ^ r) := by
    rw [Nat.mul_div_cancel']
    exact (Nat.dvd_mod_iff hd).2 (Nat.dvd_mul_left _ _)
  have hr : 2 ^ r ≤ 2 ^ w := Nat.pow_le_pow_right (by decide) h
  rw [shl_nat x r (by omega), shr_nat x (w - r) (by omega), bits_or_u64_nat _ _ (Nat.mod_lt _ (by decide)) (by omega)]
  refine ⟨_, rfl, ?_, ?_⟩
  · exact Nat.or_lt_two_pow (n := 64) (Nat.mod_lt _ (by decide)) (by omega)
  · rw [hm, ← Nat.two_pow_add_eq_or_of_lt h1, ← hm, Nat.add_mod, Nat.mod_mod_of_dvd _ (pow_dvd w h64), ← Nat.add_mod]
    have e : x * 2 ^ r = 2 ^ w * (x / 2 ^ (w - r)) + 2 ^ r * (x % 2 ^ (w - r)) := by
      conv => lhs; rw [← Nat.div_add_mod x (2 ^ (w - r))]
      rw [Nat.add_mul, pow_add' w r h, Nat.mul_assoc, Nat.mul_assoc, Nat.mul_comm (x / 2 ^ (w - r)) (2 ^ r), Nat.mul_comm (2 ^ r) (x % _)]
    have e2 := rot_lt w r x h hx
    unfold rot at e2 ⊢
    rw [e, Nat.add_assoc, Nat.mul_add_mod, Nat.mod_eq_of_lt e2]
/-- The turning functions at the width: by r of w places. -/
theorem turn_at {w : Nat} {W : Int} (hw : Wide (w : Int) W) (x y : Nat) :
    num_wide_turn.f (w : Int) 116 (x : Int) (y : Int) = some (shl .u64 (x : Int) ((y % w : Nat) : Int)) ∧
    num_wide_turn.f (w : Int) 118 (x : Int) (y : Int) = some (shr .u64 (x : Int) ((y % w : Nat) : Int)) ∧
    num_wide_turn.f (w : Int) 119 (x : Int) (y : Int) = some (Go.bits .or .u64 (shl .u64 (x : Int) ((y % w : Nat) : Int)) (shr .u64 (x : Int) ((w - y % w : Nat) : Int))) ∧
    num_wide_turn.f (w : Int) 120 (x : Int) (y : Int) = some (Go.bits .or .u64 (shl .u64 (x : Int) (((w - y % w) % w : Nat) : Int)) (shr .u64 (x : Int) ((w - (w - y % w) % w : Nat) : Int))) := by
  have hwp : 0 < w ∧ w ≤ 64 := by rcases hw with ⟨h, _⟩ | ⟨h, _⟩ <;> omega
  have h1 := Nat.mod_lt y hwp.1
  have h2 := Nat.mod_lt (w - y % w) hwp.1
  have e1 : IntKind.u64.wrap (w : Int) = (w : Int) := wrapn w (by omega)
  have e2 : Int.tmod (y : Int) (w : Int) = ((y % w : Nat) : Int) := by rw [Int.tmod_eq_emod_of_nonneg (Int.natCast_nonneg _)]; rfl
  have e3 : IntKind.u64.wrap ((w : Int) - ((y % w : Nat) : Int)) = ((w - y % w : Nat) : Int) := by rw [← Int.natCast_sub (by omega)]; exact wrapn _ (by omega)
  have e4 : Int.tmod ((w - y % w : Nat) : Int) (w : Int) = (((w - y % w) % w : Nat) : Int) := by rw [Int.tmod_eq_emod_of_nonneg (Int.natCast_nonneg _)]; rfl
  have e5 : IntKind.u64.wrap ((w : Int) - (((w - y % w) % w : Nat) : Int)) = ((w - (w - y % w) % w : Nat) : Int) := by rw [← Int.natCast_sub (by omega)]; exact wrapn _ (by omega)
  unfold num_wide_turn.f
  simp only [e1, e2, e3, e4, e5]
  have z : ¬ (w : Int) = 0 := by omega
  have g1 : (0 : Int) ≤ ((y % w : Nat) : Int) := Int.natCast_nonneg _
  have g2 : (0 : Int) ≤ ((w - y % w : Nat) : Int) := Int.natCast_nonneg _
  have g3 : (0 : Int) ≤ (((w - y % w) % w : Nat) : Int) := Int.natCast_nonneg _
  have g4 : (0 : Int) ≤ ((w - (w - y % w) % w : Nat) : Int) := Int.natCast_nonneg _
  simp only [z, g1, g2, g3, g4, if_true, if_false]
  refine ⟨?_, ?_, ?_, ?_⟩ <;> simp
end Go.Proofs.YtkpafgnchdohaaaDoor.Num
