/- What the functions of layer 2 compute, out of their printed forms. No program. -/
import Derived.Laws.BitsLemmas
import Derived.Laws.Bits64b
import Derived.Lib.BitFns
import Derived.IntWalk
import Derived.Test.YtkpafgnchdohaaaDoorWMore
import Derived.Test.YtkpafgnchdohaaaDoorXNx3
namespace Go.Proofs.YtkpafgnchdohaaaDoor.Num
open Go Go.RowKit Go.Proofs.YtkpafgnchdohaaaDoor.XN Go.Proofs.YtkpafgnchdohaaaDoorW.PrintWords Go.Proofs.YtkpafgnchdohaaaDoorW.PrintLast Go.Proofs.YtkpafgnchdohaaaDoorW.PrintMore

theorem w64_in {x : Int} (h0 : -9223372036854775808 ≤ x) (h1 : x ≤ 9223372036854775807) : wrap64 x = x := by unfold wrap64; omega
theorem u64w (x : Int) : IntKind.u64.wrap x = x % 18446744073709551616 := by simp [IntKind.wrap, IntKind.bits, IntKind.signed]
theorem wf_u64 {x : Int} (h : (Lit.int .u64 x).wf = true) : 0 ≤ x ∧ x < 18446744073709551616 := by
  simp [Lit.wf, IntKind.min, IntKind.max, IntKind.signed, IntKind.bits] at h
  omega
theorem wf_u8 {x : Int} (h : (Lit.int .u8 x).wf = true) : 0 ≤ x ∧ x < 256 := by
  simp [Lit.wf, IntKind.min, IntKind.max, IntKind.signed, IntKind.bits] at h
  omega
theorem sure (k : Nat) (hk : 20 ≤ k) : mandrellaw02_sure.f k = some true := by
  obtain ⟨k, rfl⟩ : ∃ m, k = m + 20 := ⟨k - 20, by omega⟩
  kernel_rfl
/-- A width, and how many values it has. -/
def Wide (w W : Int) : Prop := (w = 32 ∧ W = 4294967296) ∨ (w = 64 ∧ W = 18446744073709551616)
/-- As a number with a sign. -/
def sg (W x : Int) : Int := if 2 * x < W then x else x - W
theorem low_in {w W x : Int} (hw : Wide w W) (h0 : 0 ≤ x) (h1 : x < W) : num_wide_low.f w x = some x := by
  unfold num_wide_low.f
  rcases hw with ⟨rfl, rfl⟩ | ⟨rfl, rfl⟩
  · rw [if_pos rfl, Int.emod_eq_of_lt h0 h1]
  · rw [if_neg (by omega)]
theorem low_mod {w W x : Int} (hw : Wide w W) (h0 : 0 ≤ x) (h1 : x < 18446744073709551616) : num_wide_low.f w x = some (x % W) := by
  unfold num_wide_low.f
  rcases hw with ⟨rfl, rfl⟩ | ⟨rfl, rfl⟩
  · rw [if_pos rfl]
  · rw [if_neg (by omega), Int.emod_eq_of_lt h0 h1]
theorem signed_in {w W x : Int} (hw : Wide w W) (h0 : 0 ≤ x) (h1 : x < W) : num_wide_signed.f w x = some (sg W x) := by
  unfold num_wide_signed.f sg
  rcases hw with ⟨rfl, rfl⟩ | ⟨rfl, rfl⟩
  · rw [if_pos rfl]; congr 1; unfold wrap64 wrap32; split <;> omega
  · rw [if_neg (by omega)]; congr 1; unfold wrap64; split <;> omega
theorem sg_bounds {w W x : Int} (hw : Wide w W) (h0 : 0 ≤ x) (h1 : x < W) : -(W / 2) ≤ sg W x ∧ sg W x < W / 2 := by
  unfold sg
  rcases hw with ⟨rfl, rfl⟩ | ⟨rfl, rfl⟩ <;> split <;> omega
theorem sg_mod {w W x : Int} (hw : Wide w W) (h0 : 0 ≤ x) (h1 : x < W) : sg W x % W = x := by
  unfold sg
  rcases hw with ⟨rfl, rfl⟩ | ⟨rfl, rfl⟩ <;> split <;> omega
theorem wrap_mod {w W : Int} (hw : Wide w W) (t : Int) : IntKind.u64.wrap t % W = t % W := by
  rw [u64w]
  rcases hw with ⟨rfl, rfl⟩ | ⟨rfl, rfl⟩ <;> omega
theorem wrap2_mod {w W : Int} (hw : Wide w W) (t : Int) : IntKind.u64.wrap (wrap64 t) % W = t % W := by
  rw [u64w]
  unfold wrap64
  rcases hw with ⟨rfl, rfl⟩ | ⟨rfl, rfl⟩ <;> omega
theorem wrap_bounds (t : Int) : 0 ≤ IntKind.u64.wrap t ∧ IntKind.u64.wrap t < 18446744073709551616 := by
  rw [u64w]; omega

/-! ### quotients -/
theorem shl_least {w W : Int} (hw : Wide w W) : 0 ≤ wrap64 (w - 1) ∧ shl .i64 (-1) (wrap64 (w - 1)) = -(W / 2) := by
  rcases hw with ⟨rfl, rfl⟩ | ⟨rfl, rfl⟩
  · exact ⟨by decide +kernel, by decide +kernel⟩
  · exact ⟨by decide +kernel, by decide +kernel⟩
theorem parts_zero (k : Nat) {w W : Int} (hw : Wide w W) (c x : Int) (hx0 : 0 ≤ x) (hx : x < W) : num_wide_parts.f k w c x 0 = some (0, 2) := by
  have hW : 0 < W := by rcases hw with ⟨_, rfl⟩ | ⟨_, rfl⟩ <;> omega
  unfold num_wide_parts.f
  rw [signed_in hw hx0 hx, signed_in hw (by omega) hW]
  rfl
theorem parts_u (k : Nat) {w W : Int} (hw : Wide w W) (x y : Int) (hx0 : 0 ≤ x) (hx : x < W) (hy0 : 0 < y) (hy : y < W) :
    num_wide_parts.f k w 110 x y = some (x / y, 0) ∧ num_wide_parts.f k w 112 x y = some (x % y, 0) := by
  have hW : W ≤ 18446744073709551616 := by rcases hw with ⟨_, rfl⟩ | ⟨_, rfl⟩ <;> omega
  have hq : 0 ≤ x / y := Int.ediv_nonneg hx0 (by omega)
  have hq2 : x / y ≤ x := Int.ediv_le_self _ hx0
  unfold num_wide_parts.f
  rw [signed_in hw hx0 hx, signed_in hw (by omega) hy]
  simp only [Option.bind_some]
  rw [if_neg (by omega), if_pos trivial, if_neg (by omega), if_neg (by omega), if_pos trivial, Int.tdiv_eq_ediv_of_nonneg hx0, Int.tmod_eq_emod_of_nonneg hx0, u64w, Int.emod_eq_of_lt hq (by omega)]
  exact ⟨rfl, rfl⟩
theorem parts_s (k : Nat) {w W : Int} (hw : Wide w W) (x y : Int) (hx0 : 0 ≤ x) (hx : x < W) (hy0 : 0 < y) (hy : y < W) :
    ∃ q r, num_wide_parts.f (k + 1) w 109 x y = some (if sg W y = -1 ∧ sg W x = -(W / 2) then (0, 3) else (q, 0)) ∧ num_wide_parts.f (k + 1) w 111 x y = some (r, 0) ∧
      0 ≤ q ∧ q < 18446744073709551616 ∧ 0 ≤ r ∧ r < 18446744073709551616 ∧ q % W = Int.tdiv (sg W x) (sg W y) % W ∧ r % W = Int.tmod (sg W x) (sg W y) % W := by
  have hsl := shl_least hw
  have hsy : sg W y ≠ 0 := by
    intro h
    have := sg_mod hw (show 0 ≤ y by omega) hy
    rw [h] at this
    simp at this
    omega
  have hf : ∀ c, (c = 109 ∨ c = 111) → num_wide_parts.f (k + 1) w c x y = if sg W y = -1 then num_wide_parts.j0 (k + 1) w c (sg W x) (sg W y) (c == 109) else num_wide_parts.j0 (k + 1) w c (sg W x) (sg W y) false := by
    intro c hc
    unfold num_wide_parts.f
    rw [signed_in hw hx0 hx, signed_in hw (by omega) hy]
    simp only [Option.bind_some]
    rw [if_neg (by omega), if_neg (by omega), if_neg (by omega)]
  rw [hf 109 (.inl rfl), hf 111 (.inr rfl)]
  generalize sg W x = a at *
  generalize sg W y = b at *
  simp only [num_wide_parts.j0]
  by_cases hb : b = -1
  · refine ⟨IntKind.u64.wrap (wrap64 (-a)), 0, ?_, ?_, (wrap_bounds _).1, (wrap_bounds _).2, by omega, by omega, ?_, ?_⟩
    · rw [if_pos hb, show ((109 : Int) == 109) = true by rfl, if_pos rfl, if_pos hsl.1, hsl.2]
      by_cases ha : a = -(W / 2)
      · rw [if_pos ha, if_pos ⟨hb, ha⟩]
      · rw [if_neg ha, if_neg (fun h => ha h.2)]
    · rw [if_pos hb, show ((111 : Int) == 109) = false by rfl, if_neg (by simp), if_pos hb]
    · rw [wrap2_mod hw, hb, Int.tdiv_neg, Int.tdiv_one]
    · rw [hb, Int.tmod_neg, Int.tmod_one]
  · refine ⟨IntKind.u64.wrap (wrap64 (Int.tdiv a b)), IntKind.u64.wrap (Int.tmod a b), ?_, ?_, (wrap_bounds _).1, (wrap_bounds _).2, (wrap_bounds _).1, (wrap_bounds _).2, wrap2_mod hw _, wrap_mod hw _⟩
    · rw [if_neg hb, if_neg (by simp), if_neg hb, if_pos trivial, if_neg hsy, if_neg (fun h => hb h.1)]
    · rw [if_neg hb, if_neg (by simp), if_neg hb, if_neg (by omega), if_neg hsy]

/-! ### Two, at an instruction of two operands -/
theorem Two_at (k : Nat) {w W : Int} (hw : Wide w W) (c op x y : Int) (h0 : 106 ≤ c) (h1 : c ≤ 120) (hop : op = if w = 32 then c else c + 18) :
    num_Two.f (k + 3) op x y = (num_wide_low.f w x).bind fun a => (num_wide_low.f w y).bind fun b => (num_wide_reckon.f (if w = 32 then k + 1 else k) w c a b).bind fun r => (num_wide_low.f w r.1).bind fun v => some (v, r.2, none) := by
  unfold num_Two.f
  rcases hw with ⟨rfl, rfl⟩ | ⟨rfl, rfl⟩
  · rw [if_pos rfl] at hop
    subst hop
    rw [if_pos (by omega), if_neg (by omega), if_pos (by omega), show decide (op ≤ 120) = true by simpa using h1]
    simp only [num_Two.j0, num_Two.j2, if_true, show ¬ op ≤ 79 by omega, if_false]
  · rw [if_neg (by omega)] at hop
    subst hop
    rw [if_pos (by omega), if_neg (by omega), if_pos (by omega), show decide (c + 18 ≤ 120) = false by simp; omega]
    simp only [num_Two.j0]
    rw [if_neg (by simp), if_pos (by omega), show decide (c + 18 ≤ 90) = false by simp; omega]
    simp only [num_Two.j1]
    rw [if_neg (by simp), if_pos (by omega), if_pos (by omega), show ((c + 18 - 124) % 256 + 106) % 256 = c by omega]
    simp only [num_Two.j2, show ¬ c ≤ 79 by omega, if_false, show ¬ ((64 : Int) = 32) by omega]
/-- Two, at operands of the width. -/
theorem Two_in (k : Nat) {w W : Int} (hw : Wide w W) (c op x y : Int) (h0 : 106 ≤ c) (h1 : c ≤ 120) (hop : op = if w = 32 then c else c + 18) (hx0 : 0 ≤ x) (hx : x < W) (hy0 : 0 ≤ y) (hy : y < W) :
    num_Two.f (k + 3) op x y = (num_wide_reckon.f (if w = 32 then k + 1 else k) w c x y).bind fun r => (num_wide_low.f w r.1).bind fun v => some (v, r.2, none) := by
  rw [Two_at k hw c op x y h0 h1 hop, low_in hw hx0 hx, low_in hw hy0 hy]
  rfl
theorem Wide.pos {w W : Int} (hw : Wide w W) : 0 < W := by rcases hw with ⟨_, rfl⟩ | ⟨_, rfl⟩ <;> omega
theorem Wide.le {w W : Int} (hw : Wide w W) : W ≤ 18446744073709551616 := by rcases hw with ⟨_, rfl⟩ | ⟨_, rfl⟩ <;> omega
theorem Two_zero (k : Nat) {w W : Int} (hw : Wide w W) (c op x : Int) (h0 : 109 ≤ c) (h1 : c ≤ 112) (hop : op = if w = 32 then c else c + 18) (hx0 : 0 ≤ x) (hx : x < W) : num_Two.f (k + 4) op x 0 = some (0, 2, none) := by
  rw [Two_in (k + 1) hw c op x 0 (by omega) (by omega) hop hx0 hx (Int.le_refl _) hw.pos]
  unfold num_wide_reckon.f
  rw [if_neg (by omega), if_neg (by omega), if_neg (by omega), if_pos h1, parts_zero _ hw c x hx0 hx]
  simp only [Option.bind_some]
  rw [low_in hw (Int.le_refl _) hw.pos]
  rfl
theorem Two_divu (k : Nat) {w W : Int} (hw : Wide w W) (op x y : Int) (hop : op = if w = 32 then 110 else 128) (hx0 : 0 ≤ x) (hx : x < W) (hy0 : 0 < y) (hy : y < W) : num_Two.f (k + 4) op x y = some (x / y, 0, none) := by
  rw [Two_in (k + 1) hw 110 op x y (by omega) (by omega) hop hx0 hx (by omega) hy]
  unfold num_wide_reckon.f
  rw [if_neg (by omega), if_neg (by omega), if_neg (by omega), if_pos (by omega), (parts_u _ hw x y hx0 hx hy0 hy).1]
  simp only [Option.bind_some]
  rw [low_in hw (Int.ediv_nonneg hx0 (by omega)) (Int.lt_of_le_of_lt (Int.ediv_le_self _ hx0) hx)]
  rfl
theorem Two_remu (k : Nat) {w W : Int} (hw : Wide w W) (op x y : Int) (hop : op = if w = 32 then 112 else 130) (hx0 : 0 ≤ x) (hx : x < W) (hy0 : 0 < y) (hy : y < W) : num_Two.f (k + 4) op x y = some (x % y, 0, none) := by
  rw [Two_in (k + 1) hw 112 op x y (by omega) (by omega) hop hx0 hx (by omega) hy]
  unfold num_wide_reckon.f
  rw [if_neg (by omega), if_neg (by omega), if_neg (by omega), if_pos (by omega), (parts_u _ hw x y hx0 hx hy0 hy).2]
  simp only [Option.bind_some]
  rw [low_in hw (Int.emod_nonneg _ (by omega)) (Int.lt_trans (Int.emod_lt_of_pos _ hy0) hy)]
  rfl
theorem Two_divs (k : Nat) {w W : Int} (hw : Wide w W) (op x y : Int) (hop : op = if w = 32 then 109 else 127) (hx0 : 0 ≤ x) (hx : x < W) (hy0 : 0 < y) (hy : y < W) :
    num_Two.f (k + 4) op x y = some (if sg W y = -1 ∧ sg W x = -(W / 2) then (0, 3, none) else (Int.tdiv (sg W x) (sg W y) % W, 0, none)) := by
  rw [Two_in (k + 1) hw 109 op x y (by omega) (by omega) hop hx0 hx (by omega) hy]
  unfold num_wide_reckon.f
  rw [if_neg (by omega), if_neg (by omega), if_neg (by omega), if_pos (by omega)]
  obtain ⟨q, r, h1, h2, q0, q1, r0, r1, hq, hr⟩ := parts_s (if w = 32 then k + 1 else k) hw x y hx0 hx hy0 hy
  have e : (if w = 32 then k + 1 + 1 else k + 1) = (if w = 32 then k + 1 else k) + 1 := by split <;> rfl
  rw [e, h1]
  by_cases h : sg W y = -1 ∧ sg W x = -(W / 2)
  · simp only [if_pos h, Option.bind_some]
    rw [low_in hw (Int.le_refl _) hw.pos]
    rfl
  · simp only [if_neg h, Option.bind_some]
    rw [low_mod hw q0 q1, hq]
    rfl
theorem Two_rems (k : Nat) {w W : Int} (hw : Wide w W) (op x y : Int) (hop : op = if w = 32 then 111 else 129) (hx0 : 0 ≤ x) (hx : x < W) (hy0 : 0 < y) (hy : y < W) :
    num_Two.f (k + 4) op x y = some (Int.tmod (sg W x) (sg W y) % W, 0, none) := by
  rw [Two_in (k + 1) hw 111 op x y (by omega) (by omega) hop hx0 hx (by omega) hy]
  unfold num_wide_reckon.f
  rw [if_neg (by omega), if_neg (by omega), if_neg (by omega), if_pos (by omega)]
  obtain ⟨q, r, h1, h2, q0, q1, r0, r1, hq, hr⟩ := parts_s (if w = 32 then k + 1 else k) hw x y hx0 hx hy0 hy
  have e : (if w = 32 then k + 1 + 1 else k + 1) = (if w = 32 then k + 1 else k) + 1 := by split <;> rfl
  rw [e, h2]
  simp only [Option.bind_some]
  rw [low_mod hw r0 r1, hr]
  rfl
theorem Two_mul (k : Nat) {w W : Int} (hw : Wide w W) (op x y : Int) (hop : op = if w = 32 then 108 else 126) (hx0 : 0 ≤ x) (hx : x < W) (hy0 : 0 ≤ y) (hy : y < W) : num_Two.f (k + 4) op x y = some (x * y % W, 0, none) := by
  rw [Two_in (k + 1) hw 108 op x y (by omega) (by omega) hop hx0 hx hy0 hy]
  unfold num_wide_reckon.f
  rw [if_neg (by omega), if_neg (by omega), if_pos (by omega)]
  simp only [Option.bind_some]
  rw [low_mod hw (wrap_bounds _).1 (wrap_bounds _).2, wrap_mod hw]
  rfl
theorem Two_add (k : Nat) {w W : Int} (hw : Wide w W) (op x y : Int) (hop : op = if w = 32 then 106 else 124) (hx0 : 0 ≤ x) (hx : x < W) (hy0 : 0 ≤ y) (hy : y < W) : num_Two.f (k + 4) op x y = some ((x + y) % W, 0, none) := by
  rw [Two_in (k + 1) hw 106 op x y (by omega) (by omega) hop hx0 hx hy0 hy]
  unfold num_wide_reckon.f
  rw [if_pos (by omega)]
  simp only [Option.bind_some]
  rw [low_mod hw (wrap_bounds _).1 (wrap_bounds _).2, wrap_mod hw]
  rfl
theorem and32 (x : Int) (h0 : 0 ≤ x) (h1 : x < 18446744073709551616) : bits .and .u64 x 4294967295 = x % 4294967296 := by
  obtain ⟨n, rfl⟩ : ∃ n : Nat, x = (n : Int) := ⟨x.toNat, by omega⟩
  have h := bits_and_u64_nat n 4294967295 (by omega) (by omega)
  have e : n &&& 4294967295 = n % 4294967296 := Nat.and_two_pow_sub_one_eq_mod n 32
  rw [e] at h
  exact h
end Go.Proofs.YtkpafgnchdohaaaDoor.Num
