/- NumParts: a quotient times the divisor, and what is left, are the dividend. No program. -/
import Derived.Test.YtkpafgnchdohaaaDoorXNx4
import Derived.Test.YtkpafgnchdohaaaDoorNum
namespace Go.Proofs.YtkpafgnchdohaaaDoor.Pure
open Go Go.RowKit Go.Proofs.YtkpafgnchdohaaaDoor.Num Go.Proofs.YtkpafgnchdohaaaDoor.XN Go.Proofs.YtkpafgnchdohaaaDoorW.PrintWords Go.Proofs.YtkpafgnchdohaaaDoorW.PrintLast

theorem back_s (W a b x y : Int) (ha : a % W = x) (hb : b % W = y) : ((Int.tdiv a b % W) * y % W + Int.tmod a b % W) % W = x := by
  rw [← hb, ← Int.mul_emod, ← Int.add_emod, Int.mul_comm, Int.mul_tdiv_add_tmod, ha]
def at_ (w : Int) : Int := if w = 32 then 106 else 124
theorem parts_round0 (k : Nat) (wide : Bool) {w W : Int} (hw : Wide w W) (hwide : wide = decide (w = 64)) (x y : Int) (hx0 : 0 ≤ x) (hx : x < W) (hy0 : 0 ≤ y) (hy : y < W) :
    ∃ k', k + 5 ≤ k' ∧ mandrellaw02_NumParts.l0 (k + 12) wide x y (at_ w) 0 = mandrellaw02_NumParts.l0 k' wide x y (at_ w) 1 := by
  have hat : at_ w = if w = 32 then 106 else 124 := rfl
  have hw2 : w = 32 ∨ w = 64 := by rcases hw with ⟨h, _⟩ | ⟨h, _⟩ <;> omega
  have o109 : ((at_ w + 3) % 256 + 0) % 256 = if w = 32 then 109 else 127 := by rw [hat]; split <;> omega
  have o111 : ((at_ w + 5) % 256 + 0) % 256 = if w = 32 then 111 else 129 := by rw [hat]; split <;> omega
  have o108 : (at_ w + 2) % 256 = if w = 32 then 108 else 126 := by rw [hat]; split <;> omega
  rw [mandrellaw02_NumParts.l0, if_pos (by omega)]
  by_cases hy1 : y = 0
  · subst hy1
    rw [Two_zero (k + 7) hw 109 _ x (by omega) (by omega) (by rw [o109]; split <;> omega) hx0 hx, Two_zero (k + 7) hw 111 _ x (by omega) (by omega) (by rw [o111]; split <;> omega) hx0 hx]
    refine ⟨k + 10, by omega, ?_⟩
    simp [mandrellaw02_NumParts.j2]
  · have hs1 := Two_divs (k + 7) hw _ x y o109 hx0 hx (by omega) hy
    have hs2 := Two_rems (k + 7) hw _ x y o111 hx0 hx (by omega) hy
    have hsgx := sg_mod hw hx0 hx
    have hsgy := sg_mod hw hy0 hy
    have hWp := hw.pos
    have hq0 := Int.emod_nonneg (Int.tdiv (sg W x) (sg W y)) (show W ≠ 0 by omega)
    have hq1 := Int.emod_lt_of_pos (Int.tdiv (sg W x) (sg W y)) hWp
    have hr0 := Int.emod_nonneg (Int.tmod (sg W x) (sg W y)) (show W ≠ 0 by omega)
    have hr1 := Int.emod_lt_of_pos (Int.tmod (sg W x) (sg W y)) hWp
    have hb := back_s W (sg W x) (sg W y) x y hsgx hsgy
    have hp0 := Int.emod_nonneg (Int.tdiv (sg W x) (sg W y) % W * y) (show W ≠ 0 by omega)
    have hp1 := Int.emod_lt_of_pos (Int.tdiv (sg W x) (sg W y) % W * y) hWp
    have hovf : (sg W y = -1 ∧ sg W x = -(W / 2)) ↔ (x = W / 2 ∧ y = W - 1) := by
      unfold sg
      rcases hw with ⟨_, rfl⟩ | ⟨_, rfl⟩ <;> split <;> split <;> omega
    have hneg1 : sg W y = -1 → Int.tmod (sg W x) (sg W y) = 0 := by
      intro h; rw [h, Int.tmod_neg, Int.tmod_one]
    generalize Int.tdiv (sg W x) (sg W y) % W = q at *
    generalize Int.tmod (sg W x) (sg W y) = r at *
    rw [hs1, hs2]
    simp only [Option.bind_some]
    have hj3 : ∀ (t : Int) (k0 : Nat) (q0 r0 : Int), mandrellaw02_NumParts.j2 (k0 + 2) wide x y (at_ w) 0 q0 t r0 0 false = mandrellaw02_NumParts.j4 k0 wide x y (at_ w) 0 q0 t r0 0 (decide (x = W / 2 ∧ y = W - 1)) := by
      intro t k0 q0 r0
      simp only [mandrellaw02_NumParts.j2]
      rw [if_neg (by simp), if_neg hy1]
      have e : (if wide = true then mandrellaw02_NumParts.j3 (k0 + 1) wide x y (at_ w) 0 q0 t r0 0 9223372036854775808 18446744073709551615 else mandrellaw02_NumParts.j3 (k0 + 1) wide x y (at_ w) 0 q0 t r0 0 2147483648 4294967295) = mandrellaw02_NumParts.j3 (k0 + 1) wide x y (at_ w) 0 q0 t r0 0 (W / 2) (W - 1) := by
        rcases hw with ⟨rfl, rfl⟩ | ⟨rfl, rfl⟩
        · rw [hwide]; rfl
        · rw [hwide]; rfl
      rw [e]
      simp only [mandrellaw02_NumParts.j3]
      rw [if_pos trivial]
      by_cases h : x = W / 2
      · rw [if_pos h]
        by_cases h2 : y = W - 1
        · rw [show (y == W - 1) = true by simpa using h2, decide_eq_true ⟨h, h2⟩]
        · rw [show (y == W - 1) = false by simpa using h2, decide_eq_false (fun h3 => h2 h3.2)]
      · rw [if_neg h, decide_eq_false (fun h3 => h h3.1)]
    by_cases ho : x = W / 2 ∧ y = W - 1
    · rw [if_pos (hovf.2 ho)]
      simp only [Option.isNone_none, if_true]
      have hr : r = 0 := hneg1 (hovf.2 ho).1
      rw [hj3 3 (k + 9) 0 (r % W), decide_eq_true ho, hr]
      refine ⟨k + 8, by omega, ?_⟩
      simp [mandrellaw02_NumParts.j4]
    · rw [if_neg (fun h => ho (hovf.1 h))]
      simp only [Option.isNone_none, if_true]
      rw [hj3 0 (k + 9) q (r % W), decide_eq_false ho]
      have hm := Two_mul (k + 4) hw _ q y o108 hq0 hq1 hy0 hy
      have ha := Two_add (k + 4) hw (at_ w) (q * y % W) (r % W) hat hp0 hp1 hr0 hr1
      rw [hb] at ha
      refine ⟨k + 7, by omega, ?_⟩
      simp only [mandrellaw02_NumParts.j4]
      rw [if_neg (by simp), hm]
      simp only [Option.bind_some]
      rw [ha]
      simp [mandrellaw02_NumParts.j5]
theorem parts_round1 (k : Nat) (wide : Bool) {w W : Int} (hw : Wide w W) (_ : wide = decide (w = 64)) (x y : Int) (hx0 : 0 ≤ x) (hx : x < W) (hy0 : 0 ≤ y) (hy : y < W) :
    ∃ k', k + 5 ≤ k' ∧ mandrellaw02_NumParts.l0 (k + 12) wide x y (at_ w) 1 = mandrellaw02_NumParts.l0 k' wide x y (at_ w) 2 := by
  have hat : at_ w = if w = 32 then 106 else 124 := rfl
  have hw2 : w = 32 ∨ w = 64 := by rcases hw with ⟨h, _⟩ | ⟨h, _⟩ <;> omega
  have o110 : ((at_ w + 3) % 256 + 1) % 256 = if w = 32 then 110 else 128 := by rw [hat]; split <;> omega
  have o112 : ((at_ w + 5) % 256 + 1) % 256 = if w = 32 then 112 else 130 := by rw [hat]; split <;> omega
  have o108 : (at_ w + 2) % 256 = if w = 32 then 108 else 126 := by rw [hat]; split <;> omega
  rw [mandrellaw02_NumParts.l0, if_pos (by omega)]
  by_cases hy1 : y = 0
  · subst hy1
    rw [Two_zero (k + 7) hw 110 _ x (by omega) (by omega) (by rw [o110]; split <;> omega) hx0 hx, Two_zero (k + 7) hw 112 _ x (by omega) (by omega) (by rw [o112]; split <;> omega) hx0 hx]
    refine ⟨k + 10, by omega, ?_⟩
    simp [mandrellaw02_NumParts.j2]
  · have hs1 := Two_divu (k + 7) hw _ x y o110 hx0 hx (by omega) hy
    have hs2 := Two_remu (k + 7) hw _ x y o112 hx0 hx (by omega) hy
    have hWp := hw.pos
    have hq0 : 0 ≤ x / y := Int.ediv_nonneg hx0 hy0
    have hq1 : x / y < W := Int.lt_of_le_of_lt (Int.ediv_le_self _ hx0) hx
    have hr0 := Int.emod_nonneg x hy1
    have hr1 := Int.emod_lt_of_pos x (show 0 < y by omega)
    have hb : x / y * y + x % y = x := Int.ediv_mul_add_emod x y
    have hp0 : 0 ≤ x / y * y := Int.mul_nonneg hq0 hy0
    rw [hs1, hs2]
    simp only [Option.bind_some, Option.isNone_none, if_true]
    generalize x / y = q at *
    generalize x % y = r at *
    have hm := Two_mul (k + 4) hw _ q y o108 hq0 hq1 hy0 hy
    generalize hpp : q * y = p at *
    have hp1 : p < W := by omega
    rw [Int.emod_eq_of_lt hp0 hp1] at hm
    have ha := Two_add (k + 4) hw (at_ w) p r hat hp0 hp1 hr0 (by omega)
    rw [hb, Int.emod_eq_of_lt hx0 hx] at ha
    refine ⟨k + 7, by omega, ?_⟩
    simp only [mandrellaw02_NumParts.j2]
    rw [if_neg (by simp), if_neg hy1]
    have e : ∀ (a b : Int), mandrellaw02_NumParts.j3 (k + 10) wide x y (at_ w) 1 q 0 r 0 a b = mandrellaw02_NumParts.j4 (k + 9) wide x y (at_ w) 1 q 0 r 0 false := by
      intro a b
      simp only [mandrellaw02_NumParts.j3]
      rw [if_neg (by omega)]
    rw [e, e, ite_self]
    simp only [mandrellaw02_NumParts.j4]
    rw [if_neg (by simp), hm]
    simp only [Option.bind_some]
    rw [ha]
    simp [mandrellaw02_NumParts.j5]
    omega
theorem parts_all (wide : Bool) {w W : Int} (hw : Wide w W) (hwide : wide = decide (w = 64)) (x y : Int) (hx0 : 0 ≤ x) (hx : x < W) (hy0 : 0 ≤ y) (hy : y < W) :
    mandrellaw02_NumParts.j0 100 wide x y (at_ w) = some true := by
  obtain ⟨k1, h1, e1⟩ := parts_round0 87 wide hw hwide x y hx0 hx hy0 hy
  obtain ⟨k2, h2, e2⟩ := parts_round1 (k1 - 12) wide hw hwide x y hx0 hx hy0 hy
  rw [show k1 - 12 + 12 = k1 by omega] at e2
  have e0 : mandrellaw02_NumParts.j0 100 wide x y (at_ w) = mandrellaw02_NumParts.l0 99 wide x y (at_ w) 0 := rfl
  rw [e0, e1, e2]
  obtain ⟨k3, rfl⟩ : ∃ m, k2 = m + 1 := ⟨k2 - 1, by omega⟩
  rw [mandrellaw02_NumParts.l0, if_neg (by omega), sure k3 (by omega)]
  rfl
theorem NumParts : mandrellaw02_NumParts.Pure := by
  intro wide x y hx hy
  have hx := wf_u64 hx
  have hy := wf_u64 hy
  refine ⟨100, ?_⟩
  unfold mandrellaw02_NumParts.f
  cases wide with
  | true =>
    rw [if_pos rfl]
    exact parts_all true (.inr ⟨rfl, rfl⟩) rfl x y hx.1 hx.2 hy.1 hy.2
  | false =>
    rw [if_neg (by simp), and32 x hx.1 hx.2, and32 y hy.1 hy.2]
    exact parts_all false (.inl ⟨rfl, rfl⟩) rfl _ _ (by omega) (by omega) (by omega) (by omega)
end Go.Proofs.YtkpafgnchdohaaaDoor.Pure
