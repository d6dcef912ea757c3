/- NumTurns: turned and back, moved up and down. No program. -/
import Derived.Test.YtkpafgnchdohaaaDoorXNx5
import Derived.Test.YtkpafgnchdohaaaDoorTurns
namespace Go.Proofs.YtkpafgnchdohaaaDoor.Pure
open Go Go.RowKit Go.Proofs.YtkpafgnchdohaaaDoor.Num Go.Proofs.YtkpafgnchdohaaaDoor.XN Go.Proofs.YtkpafgnchdohaaaDoorW.PrintWords Go.Proofs.YtkpafgnchdohaaaDoorW.PrintLast

attribute [local irreducible] bits_OnesCount64.f
theorem wide_pow {w : Nat} {W : Int} (hw : Wide (w : Int) W) : W = ((2 ^ w : Nat) : Int) := by
  rcases hw with ⟨h, rfl⟩ | ⟨h, rfl⟩
  · obtain rfl : w = 32 := by omega
    rfl
  · obtain rfl : w = 64 := by omega
    rfl
theorem mod_width {w : Nat} {W : Int} (hw : Wide (w : Int) W) (y : Nat) : (y % 2 ^ w) % w = y % w := by
  have hw2 : w = 32 ∨ w = 64 := by rcases hw with ⟨h, _⟩ | ⟨h, _⟩ <;> omega
  rcases hw2 with rfl | rfl <;> omega
theorem Two_turn (k : Nat) {w : Nat} {W : Int} (hw : Wide (w : Int) W) (c op : Int) (x y t : Nat) (h0 : 116 ≤ c) (h1 : c ≤ 120) (hop : op = if (w : Int) = 32 then c else c + 18) (hx : x < 2 ^ w) (hy : y < 18446744073709551616)
    (ht : num_wide_turn.f (w : Int) c (x : Int) ((y % 2 ^ w : Nat) : Int) = some (t : Int)) (ht2 : t < 18446744073709551616) : num_Two.f (k + 3) op (x : Int) (y : Int) = some (((t % 2 ^ w : Nat) : Int), 0, none) := by
  have hW := wide_pow hw
  rw [Two_at k hw c op x y (by omega) h1 hop, low_in hw (by omega) (by omega), low_mod hw (by omega) (by omega)]
  have e : (y : Int) % W = ((y % 2 ^ w : Nat) : Int) := by rw [hW]; rfl
  rw [e]
  simp only [Option.bind_some]
  unfold num_wide_reckon.f
  rw [if_neg (by omega), if_neg (by omega), if_neg (by omega), if_neg (by omega), if_neg (by omega), if_neg (by omega), if_neg (by omega), ht]
  simp only [Option.bind_some]
  rw [low_mod hw (by omega) (by omega), hW]
  rfl
theorem bits_pop (w x : Int) : num_wide_bits.f w 105 x = (bits_OnesCount64.f x).bind fun t => some (IntKind.u64.wrap t) := by
  unfold num_wide_bits.f
  rw [if_neg (by omega), if_neg (by omega)]
theorem one_105 (k : Nat) (x : Int) : num_One.f (k + 3) 105 x = (num_wide_low.f 32 x).bind fun a => (num_wide_bits.f 32 105 a).bind fun b => some (b, none) := by
  unfold num_One.f
  rw [if_neg (by omega), if_neg (by omega), if_pos (by omega), num_One.j0, if_pos (by decide)]
theorem one_123 (k : Nat) (x : Int) : num_One.f (k + 3) 123 x = (num_wide_bits.f 64 105 x).bind fun b => some (b, none) := by
  unfold num_One.f
  rw [if_neg (by omega), if_neg (by omega), if_pos (by omega), num_One.j0, if_neg (by decide), if_pos (by omega), num_One.j1, if_pos (by decide), show (((123 : Int) - 121) % 256 + 103) % 256 = 105 by omega]
theorem one_pop (k : Nat) {w : Nat} {W : Int} (hw : Wide (w : Int) W) (op : Int) (x : Nat) (hop : op = if (w : Int) = 32 then 105 else 123) (hx : x < 2 ^ w) : num_One.f (k + 3) op (x : Int) = some (IntKind.u64.wrap (ones 64 x : Int), none) := by
  have hw2 : w = 32 ∨ w = 64 := by rcases hw with ⟨h, _⟩ | ⟨h, _⟩ <;> omega
  clear hw
  rcases hw2 with rfl | rfl
  · have hop2 : op = 105 := hop
    have hx2 : (x : Int) < 4294967296 := by omega
    rw [hop2, one_105, low_in (w := 32) (W := 4294967296) (.inl ⟨rfl, rfl⟩) (Int.natCast_nonneg x) hx2]
    rw [Option.bind_some, bits_pop, OnesCount x (by omega), Option.bind_some, Option.bind_some]
  · have hop2 : op = 123 := hop
    rw [hop2, one_123, bits_pop, OnesCount x (by omega), Option.bind_some, Option.bind_some]
theorem turns (k : Nat) {w : Nat} {W : Int} (hw : Wide (w : Int) W) (at0 one : Int) (x y : Nat) (hat : at0 = if (w : Int) = 32 then 106 else 124) (hone : one = if (w : Int) = 32 then 105 else 123)
    (hx : x < 2 ^ w) (hy : y < 18446744073709551616) : mandrellaw02_NumTurns.j0 (k + 40) (x : Int) (y : Int) at0 one (w : Int) = some true := by
  have hwp : 0 < w ∧ w ≤ 64 := by rcases hw with ⟨h, _⟩ | ⟨h, _⟩ <;> omega
  have hr := Nat.mod_lt y hwp.1
  have hr2 := Nat.mod_lt (w - y % w) hwp.1
  have hw64 : (2 : Nat) ^ w ≤ 2 ^ 64 := Nat.pow_le_pow_right (by decide) hwp.2
  have o119 : (at0 + 13) % 256 = if (w : Int) = 32 then 119 else 119 + 18 := by rw [hat]; split <;> omega
  have o120 : (at0 + 14) % 256 = if (w : Int) = 32 then 120 else 120 + 18 := by rw [hat]; split <;> omega
  have o116 : (at0 + 10) % 256 = if (w : Int) = 32 then 116 else 116 + 18 := by rw [hat]; split <;> omega
  have o118 : (at0 + 12) % 256 = if (w : Int) = 32 then 118 else 118 + 18 := by rw [hat]; split <;> omega
  have T := fun z => turn_at hw z (y % 2 ^ w)
  simp only [mod_width hw] at T
  -- turned
  obtain ⟨t1, a1, a2, a3⟩ := turned w (y % w) x (by omega) hwp.2 hx
  have g1 := Two_turn (k + 36) hw 119 _ x y t1 (by omega) (by omega) o119 hx hy ((T x).2.2.1.trans (congrArg some a1)) a2
  rw [a3] at g1
  have hrot := rot_lt w (y % w) x (by omega) hx
  obtain ⟨t2, b1, b2, b3⟩ := turned w ((w - y % w) % w) (rot w (y % w) x) (by omega) hwp.2 hrot
  have g2 := Two_turn (k + 36) hw 120 _ (rot w (y % w) x) y t2 (by omega) (by omega) o120 hrot hy ((T _).2.2.2.trans (congrArg some b1)) b2
  rw [b3, rot_back w (y % w) x hr hx] at g2
  have p1 := one_pop (k + 36) hw one x hone hx
  have p2 := one_pop (k + 36) hw one _ hone hrot
  rw [rot_ones w (y % w) x (by omega) hwp.2 hx] at p2
  -- moved
  have hs1 : num_wide_turn.f (w : Int) 116 (x : Int) ((y % 2 ^ w : Nat) : Int) = some ((x * 2 ^ (y % w) % 18446744073709551616 : Nat) : Int) := by rw [(T x).1, shl_nat x _ (by omega)]
  have g3 := Two_turn (k + 36) hw 116 _ x y _ (by omega) (by omega) o116 hx hy hs1 (Nat.mod_lt _ (by decide))
  have eup : x * 2 ^ (y % w) % 18446744073709551616 % 2 ^ w = 2 ^ (y % w) * (x % 2 ^ (w - y % w)) := by
    rw [Nat.mod_mod_of_dvd _ (pow_dvd w hwp.2), pow_add' w (y % w) (by omega), Nat.mul_comm (2 ^ (w - y % w)), Nat.mul_comm x, Nat.mul_mod_mul_left]
  rw [eup] at g3
  have hup : 2 ^ (y % w) * (x % 2 ^ (w - y % w)) < 2 ^ w := by rw [← eup]; exact Nat.mod_lt _ (Nat.pow_pos (by decide))
  have hs2 : num_wide_turn.f (w : Int) 118 ((2 ^ (y % w) * (x % 2 ^ (w - y % w)) : Nat) : Int) ((y % 2 ^ w : Nat) : Int) = some ((x % 2 ^ (w - y % w) : Nat) : Int) := by
    rw [(T _).2.1, shr_nat _ _ (by omega), Nat.mul_div_cancel_left _ (Nat.pow_pos (by decide))]
  have hdl : x % 2 ^ (w - y % w) < 2 ^ w := Nat.lt_of_le_of_lt (Nat.mod_le _ _) hx
  have g4 := Two_turn (k + 36) hw 118 _ _ y _ (by omega) (by omega) o118 hup hy hs2 (by omega)
  rw [Nat.mod_eq_of_lt hdl] at g4
  have etm : Int.tmod (y : Int) (w : Int) = ((y % w : Nat) : Int) := by rw [Int.tmod_eq_emod_of_nonneg (Int.natCast_nonneg _)]; rfl
  have hwz : ¬ (w : Int) = 0 := by omega
  simp only [mandrellaw02_NumTurns.j0]
  rw [g1, Option.bind_some]
  rw [g2, Option.bind_some]
  rw [p1, Option.bind_some]
  rw [p2, Option.bind_some]
  rw [g3, Option.bind_some]
  rw [g4, Option.bind_some]
  rw [if_neg hwz, etm, sure _ (by omega)]
  simp only [Option.isNone_none, if_true, Option.bind_some]
  by_cases h0 : y % w = 0
  · rw [if_neg (by omega), h0, Nat.sub_zero, Nat.mod_eq_of_lt hx]
    simp
  · have e1 : IntKind.u64.wrap ((w : Int) - ((y % w : Nat) : Int)) = ((w - y % w : Nat) : Int) := by rw [← Int.natCast_sub (by omega)]; exact wrapn _ (by omega)
    have hq : (2 : Nat) ^ (w - y % w) ≤ 2 ^ 63 := Nat.pow_le_pow_right (by decide) (by omega)
    have hqp : (0 : Nat) < 2 ^ (w - y % w) := Nat.pow_pos (by decide)
    have e2 : shl .u64 1 ((w - y % w : Nat) : Int) = ((2 ^ (w - y % w) : Nat) : Int) := by
      have h9 := shl_nat 1 (w - y % w) (by omega)
      rw [Nat.one_mul, Nat.mod_eq_of_lt (show 2 ^ (w - y % w) < 18446744073709551616 from Nat.lt_of_le_of_lt hq (by decide))] at h9
      exact h9
    have e3 : IntKind.u64.wrap (((2 ^ (w - y % w) : Nat) : Int) - 1) = ((2 ^ (w - y % w) - 1 : Nat) : Int) := by rw [u64w]; omega
    have e4 := bits_and_u64_nat x (2 ^ (w - y % w) - 1) (by omega) (by omega)
    rw [Nat.and_two_pow_sub_one_eq_mod] at e4
    rw [if_pos (by omega), e1, if_pos (Int.natCast_nonneg _), e2, e3, e4]
    simp
theorem NumTurns : mandrellaw02_NumTurns.Pure := by
  intro wide x y hx hy
  have hx := wf_u64 hx
  have hy := wf_u64 hy
  obtain ⟨n, rfl⟩ : ∃ n : Nat, x = (n : Int) := ⟨x.toNat, by omega⟩
  obtain ⟨m, rfl⟩ : ∃ n : Nat, y = (n : Int) := ⟨y.toNat, by omega⟩
  refine ⟨50, ?_⟩
  unfold mandrellaw02_NumTurns.f
  cases wide with
  | true =>
    rw [if_pos rfl]
    exact turns 10 (w := 64) (.inr ⟨rfl, rfl⟩) _ _ n m rfl rfl (by omega) (by omega)
  | false =>
    rw [if_neg (by simp), and32 n hx.1 hx.2]
    exact turns 10 (w := 32) (.inl ⟨rfl, rfl⟩) _ _ (n % 4294967296) m rfl rfl (by omega) (by omega)
end Go.Proofs.YtkpafgnchdohaaaDoor.Pure
