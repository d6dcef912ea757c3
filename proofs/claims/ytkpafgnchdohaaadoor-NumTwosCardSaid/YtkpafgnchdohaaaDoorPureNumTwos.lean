/- NumTwos: any instruction of two operands: the program's answer is the document's. Printed by a program of this session. No program. -/
import Derived.Test.YtkpafgnchdohaaaDoorXNx10
import Derived.Test.YtkpafgnchdohaaaDoorTwoMoved
namespace Go.Proofs.YtkpafgnchdohaaaDoor.Pure
open Go Go.RowKit Go.Proofs.YtkpafgnchdohaaaDoor.Num Go.Proofs.YtkpafgnchdohaaaDoor.XN Go.Proofs.YtkpafgnchdohaaaDoorW.PrintWords Go.Proofs.YtkpafgnchdohaaaDoorW.PrintLast Go.Proofs.YtkpafgnchdohaaaDoorW.PrintMore

theorem law2_ok (op x y v t : Int) (h1 : num_Two.f 200 op x y = some (v, t, none)) (h2 : mandrelref02_Two.f 200 op x y = some (v, t, true)) : mandrellaw02_NumTwos.f 200 op x y = some true := by
  unfold mandrellaw02_NumTwos.f
  rw [h1, Option.bind_some, h2, Option.bind_some, sure 200 (by omega)]
  simp
theorem law2_no (op x y : Int) (h1 : num_Two.f 200 op x y = some (0, 0, some 1)) (h2 : mandrelref02_Two.f 200 op x y = some (0, 0, false)) : mandrellaw02_NumTwos.f 200 op x y = some true := by
  unfold mandrellaw02_NumTwos.f
  rw [h1, Option.bind_some, h2, Option.bind_some, sure 200 (by omega)]
  simp [mandrellaw02_num1.f, mandrellaw02_number.f]
theorem W_pow {w : Nat} {W : Int} (hw : Wide (w : Int) W) : W = ((2 ^ w : Nat) : Int) := by
  rcases hw with ⟨h, rfl⟩ | ⟨h, rfl⟩
  · obtain rfl : w = 32 := by omega
    rfl
  · obtain rfl : w = 64 := by omega
    rfl
theorem mod_in {w W x : Int} (hw : Wide w W) : 0 ≤ x % W ∧ x % W < W := ⟨Int.emod_nonneg _ (by have := hw.pos; omega), Int.emod_lt_of_pos _ hw.pos⟩
/-- The program's answer, where its reckoning is known. -/
theorem prog_at {w W : Int} (hw : Wide w W) (c op x y v t : Int) (h0 : 106 ≤ c) (h1 : c ≤ 120) (hop : op = if w = 32 then c else c + 18) (hx : 0 ≤ x ∧ x < 18446744073709551616) (hy : 0 ≤ y ∧ y < 18446744073709551616)
    (hr : num_wide_reckon.f (if w = 32 then 198 else 197) w c (x % W) (y % W) = some (v, t)) (hv : 0 ≤ v ∧ v < 18446744073709551616) : num_Two.f 200 op x y = some (v % W, t, none) := by
  have h := Two_at 197 hw c op x y h0 h1 hop
  rw [low_mod hw hx.1 hx.2, Option.bind_some, low_mod hw hy.1 hy.2, Option.bind_some] at h
  refine h.trans ?_
  rw [hr, Option.bind_some, low_mod hw hv.1 hv.2, Option.bind_some]
theorem prog_low {w W : Int} (hw : Wide w W) (c op x y : Int) (h0 : 106 ≤ c) (h1 : c ≤ 120) (hop : op = if w = 32 then c else c + 18) (hx : 0 ≤ x ∧ x < 18446744073709551616) (hy : 0 ≤ y ∧ y < 18446744073709551616) :
    num_Two.f 200 op x y = num_Two.f 200 op (x % W) (y % W) := by
  have a := Two_at 197 hw c op x y h0 h1 hop
  have b := Two_in 197 hw c op (x % W) (y % W) h0 h1 hop (mod_in hw).1 (mod_in hw).2 (mod_in hw).1 (mod_in hw).2
  rw [low_mod hw hx.1 hx.2, Option.bind_some, low_mod hw hy.1 hy.2, Option.bind_some] at a
  exact a.trans b.symm
theorem prog_cmp {w W : Int} (hw : Wide w W) (c op x y : Int) (h0 : 70 ≤ c) (h1 : c ≤ 79) (hop : op = if w = 32 then c else c + 11) (hx : 0 ≤ x ∧ x < 18446744073709551616) (hy : 0 ≤ y ∧ y < 18446744073709551616) :
    num_Two.f 200 op x y = (num_wide_holds.f w c (x % W) (y % W)).bind fun h => (num_is.f h).bind fun v => some (v, 0, none) := by
  have hlx := low_mod hw hx.1 hx.2
  have hly := low_mod hw hy.1 hy.2
  unfold num_Two.f
  rcases hw with ⟨rfl, rfl⟩ | ⟨rfl, rfl⟩
  · rw [if_pos rfl] at hop
    subst hop
    rw [if_pos (by omega), if_pos (by omega), num_Two.j0, if_pos rfl, num_Two.j2, hlx, Option.bind_some, hly, Option.bind_some, if_pos (by omega)]
  · rw [if_neg (by omega)] at hop
    subst hop
    rw [if_pos (by omega), if_neg (by omega), if_neg (by omega), num_Two.j0, if_neg (by simp), if_pos (by omega), decide_eq_true (by omega), num_Two.j1, if_pos rfl, show ((c + 11 - 80) % 256 + 69) % 256 = c by omega, num_Two.j2, hlx, Option.bind_some, hly, Option.bind_some, if_pos (by omega)]
theorem is_f (b : Bool) : num_is.f b = some (if b = true then 1 else 0) := by cases b <;> rfl
theorem cmp_law {w W : Int} (hw : Wide w W) (c op x y : Int) (name : ByteArray) (r : Bool) (h0 : 70 ≤ c) (h1 : c ≤ 79) (hop : op = if w = 32 then c else c + 11) (hx : 0 ≤ x ∧ x < 18446744073709551616) (hy : 0 ≤ y ∧ y < 18446744073709551616)
    (hR : mandrelref02_Two.f 200 op x y = mandrelref02_Two.j0 200 x y name w false) (hp : num_wide_holds.f w c (x % W) (y % W) = some r) (hh : mandrelref02_holds.f name (x % W) (y % W) w = some (r, true)) : mandrellaw02_NumTwos.f 200 op x y = some true := by
  refine law2_ok op x y (if r = true then 1 else 0) 0 ?_ ?_
  · rw [prog_cmp hw c op x y h0 h1 hop hx hy, hp, Option.bind_some, is_f, Option.bind_some]
  · rw [hR, two_cmp x y w _ _ name r (ref_low hw x hx.1 hx.2) (ref_low hw y hy.1 hy.2) hh]
theorem holds_at {w W : Int} (c a b : Int) (hw : Wide w W) (ha : 0 ≤ a ∧ a < W) (hb : 0 ≤ b ∧ b < W) (h0 : 70 ≤ c) (h1 : c ≤ 79) : num_wide_holds.f w c a b =
    (if c - 70 = 0 then (some (a == b)) else (if c - 70 = 1 then (some (a != b)) else (if c - 70 = 2 then (some (decide (sg W a < sg W b))) else (if c - 70 = 3 then (some (decide (a < b))) else (if c - 70 = 4 then (some (decide (sg W a > sg W b))) else (if c - 70 = 5 then (some (decide (a > b))) else (if c - 70 = 6 then (some (decide (sg W a ≤ sg W b))) else (if c - 70 = 7 then (some (decide (a ≤ b))) else (if c - 70 = 8 then (some (decide (sg W a ≥ sg W b))) else (some (decide (a ≥ b)))))))))))) := by
  unfold num_wide_holds.f
  rw [signed_in hw ha.1 ha.2, Option.bind_some, signed_in hw hb.1 hb.2, Option.bind_some, show (c - 70) % 256 = c - 70 by omega]
theorem not_lt (a b : Int) : (!decide (a < b)) = decide (b ≤ a) := by
  by_cases h : a < b
  · rw [decide_eq_true h, decide_eq_false (by omega)]; rfl
  · rw [decide_eq_false h, decide_eq_true (by omega)]; rfl
theorem L_eq {w W : Int} (hw : Wide w W) (op x y : Int) (hx : 0 ≤ x ∧ x < 18446744073709551616) (hy : 0 ≤ y ∧ y < 18446744073709551616) (hop : op = if w = 32 then 70 else 81) (hR : mandrelref02_Two.f 200 op x y = mandrelref02_Two.j0 200 x y (⟨#[101, 113]⟩ : ByteArray) w false) : mandrellaw02_NumTwos.f 200 op x y = some true := by
  refine cmp_law hw 70 op x y _ (x % W == y % W) (by omega) (by omega) (by rw [hop]; split <;> omega) hx hy hR ?_ ?_
  · rw [holds_at 70 _ _ hw (mod_in hw) (mod_in hw) (by omega) (by omega), if_pos (by omega)]
  · rw [h_eq]
theorem L_ne {w W : Int} (hw : Wide w W) (op x y : Int) (hx : 0 ≤ x ∧ x < 18446744073709551616) (hy : 0 ≤ y ∧ y < 18446744073709551616) (hop : op = if w = 32 then 71 else 82) (hR : mandrelref02_Two.f 200 op x y = mandrelref02_Two.j0 200 x y (⟨#[110, 101]⟩ : ByteArray) w false) : mandrellaw02_NumTwos.f 200 op x y = some true := by
  refine cmp_law hw 71 op x y _ (x % W != y % W) (by omega) (by omega) (by rw [hop]; split <;> omega) hx hy hR ?_ ?_
  · rw [holds_at 71 _ _ hw (mod_in hw) (mod_in hw) (by omega) (by omega), if_neg (by omega), if_pos (by omega)]
  · rw [h_ne]
theorem L_lt_s {w W : Int} (hw : Wide w W) (op x y : Int) (hx : 0 ≤ x ∧ x < 18446744073709551616) (hy : 0 ≤ y ∧ y < 18446744073709551616) (hop : op = if w = 32 then 72 else 83) (hR : mandrelref02_Two.f 200 op x y = mandrelref02_Two.j0 200 x y (⟨#[108, 116, 95, 115]⟩ : ByteArray) w false) : mandrellaw02_NumTwos.f 200 op x y = some true := by
  refine cmp_law hw 72 op x y _ (decide (sg W (x % W) < sg W (y % W))) (by omega) (by omega) (by rw [hop]; split <;> omega) hx hy hR ?_ ?_
  · rw [holds_at 72 _ _ hw (mod_in hw) (mod_in hw) (by omega) (by omega), if_neg (by omega), if_neg (by omega), if_pos (by omega)]
  · rw [h_lt_s, ref_less hw (x % W) (y % W) (mod_in hw).1 (mod_in hw).2 (mod_in hw).1 (mod_in hw).2, Option.bind_some]
theorem L_lt_u {w W : Int} (hw : Wide w W) (op x y : Int) (hx : 0 ≤ x ∧ x < 18446744073709551616) (hy : 0 ≤ y ∧ y < 18446744073709551616) (hop : op = if w = 32 then 73 else 84) (hR : mandrelref02_Two.f 200 op x y = mandrelref02_Two.j0 200 x y (⟨#[108, 116, 95, 117]⟩ : ByteArray) w false) : mandrellaw02_NumTwos.f 200 op x y = some true := by
  refine cmp_law hw 73 op x y _ (decide (x % W < y % W)) (by omega) (by omega) (by rw [hop]; split <;> omega) hx hy hR ?_ ?_
  · rw [holds_at 73 _ _ hw (mod_in hw) (mod_in hw) (by omega) (by omega), if_neg (by omega), if_neg (by omega), if_neg (by omega), if_pos (by omega)]
  · rw [h_lt_u]
theorem L_gt_s {w W : Int} (hw : Wide w W) (op x y : Int) (hx : 0 ≤ x ∧ x < 18446744073709551616) (hy : 0 ≤ y ∧ y < 18446744073709551616) (hop : op = if w = 32 then 74 else 85) (hR : mandrelref02_Two.f 200 op x y = mandrelref02_Two.j0 200 x y (⟨#[103, 116, 95, 115]⟩ : ByteArray) w false) : mandrellaw02_NumTwos.f 200 op x y = some true := by
  refine cmp_law hw 74 op x y _ (decide (sg W (x % W) > sg W (y % W))) (by omega) (by omega) (by rw [hop]; split <;> omega) hx hy hR ?_ ?_
  · rw [holds_at 74 _ _ hw (mod_in hw) (mod_in hw) (by omega) (by omega), if_neg (by omega), if_neg (by omega), if_neg (by omega), if_neg (by omega), if_pos (by omega)]
  · rw [h_gt_s, ref_less hw (y % W) (x % W) (mod_in hw).1 (mod_in hw).2 (mod_in hw).1 (mod_in hw).2, Option.bind_some]
theorem L_gt_u {w W : Int} (hw : Wide w W) (op x y : Int) (hx : 0 ≤ x ∧ x < 18446744073709551616) (hy : 0 ≤ y ∧ y < 18446744073709551616) (hop : op = if w = 32 then 75 else 86) (hR : mandrelref02_Two.f 200 op x y = mandrelref02_Two.j0 200 x y (⟨#[103, 116, 95, 117]⟩ : ByteArray) w false) : mandrellaw02_NumTwos.f 200 op x y = some true := by
  refine cmp_law hw 75 op x y _ (decide (x % W > y % W)) (by omega) (by omega) (by rw [hop]; split <;> omega) hx hy hR ?_ ?_
  · rw [holds_at 75 _ _ hw (mod_in hw) (mod_in hw) (by omega) (by omega), if_neg (by omega), if_neg (by omega), if_neg (by omega), if_neg (by omega), if_neg (by omega), if_pos (by omega)]
  · rw [h_gt_u]
theorem L_le_s {w W : Int} (hw : Wide w W) (op x y : Int) (hx : 0 ≤ x ∧ x < 18446744073709551616) (hy : 0 ≤ y ∧ y < 18446744073709551616) (hop : op = if w = 32 then 76 else 87) (hR : mandrelref02_Two.f 200 op x y = mandrelref02_Two.j0 200 x y (⟨#[108, 101, 95, 115]⟩ : ByteArray) w false) : mandrellaw02_NumTwos.f 200 op x y = some true := by
  refine cmp_law hw 76 op x y _ (decide (sg W (x % W) ≤ sg W (y % W))) (by omega) (by omega) (by rw [hop]; split <;> omega) hx hy hR ?_ ?_
  · rw [holds_at 76 _ _ hw (mod_in hw) (mod_in hw) (by omega) (by omega), if_neg (by omega), if_neg (by omega), if_neg (by omega), if_neg (by omega), if_neg (by omega), if_neg (by omega), if_pos (by omega)]
  · rw [h_le_s, ref_less hw (y % W) (x % W) (mod_in hw).1 (mod_in hw).2 (mod_in hw).1 (mod_in hw).2, Option.bind_some, not_lt]
theorem L_le_u {w W : Int} (hw : Wide w W) (op x y : Int) (hx : 0 ≤ x ∧ x < 18446744073709551616) (hy : 0 ≤ y ∧ y < 18446744073709551616) (hop : op = if w = 32 then 77 else 88) (hR : mandrelref02_Two.f 200 op x y = mandrelref02_Two.j0 200 x y (⟨#[108, 101, 95, 117]⟩ : ByteArray) w false) : mandrellaw02_NumTwos.f 200 op x y = some true := by
  refine cmp_law hw 77 op x y _ (decide (x % W ≤ y % W)) (by omega) (by omega) (by rw [hop]; split <;> omega) hx hy hR ?_ ?_
  · rw [holds_at 77 _ _ hw (mod_in hw) (mod_in hw) (by omega) (by omega), if_neg (by omega), if_neg (by omega), if_neg (by omega), if_neg (by omega), if_neg (by omega), if_neg (by omega), if_neg (by omega), if_pos (by omega)]
  · rw [h_le_u]
theorem L_ge_s {w W : Int} (hw : Wide w W) (op x y : Int) (hx : 0 ≤ x ∧ x < 18446744073709551616) (hy : 0 ≤ y ∧ y < 18446744073709551616) (hop : op = if w = 32 then 78 else 89) (hR : mandrelref02_Two.f 200 op x y = mandrelref02_Two.j0 200 x y (⟨#[103, 101, 95, 115]⟩ : ByteArray) w false) : mandrellaw02_NumTwos.f 200 op x y = some true := by
  refine cmp_law hw 78 op x y _ (decide (sg W (x % W) ≥ sg W (y % W))) (by omega) (by omega) (by rw [hop]; split <;> omega) hx hy hR ?_ ?_
  · rw [holds_at 78 _ _ hw (mod_in hw) (mod_in hw) (by omega) (by omega), if_neg (by omega), if_neg (by omega), if_neg (by omega), if_neg (by omega), if_neg (by omega), if_neg (by omega), if_neg (by omega), if_neg (by omega), if_pos (by omega)]
  · rw [h_ge_s, ref_less hw (x % W) (y % W) (mod_in hw).1 (mod_in hw).2 (mod_in hw).1 (mod_in hw).2, Option.bind_some, not_lt]
theorem L_ge_u {w W : Int} (hw : Wide w W) (op x y : Int) (hx : 0 ≤ x ∧ x < 18446744073709551616) (hy : 0 ≤ y ∧ y < 18446744073709551616) (hop : op = if w = 32 then 79 else 90) (hR : mandrelref02_Two.f 200 op x y = mandrelref02_Two.j0 200 x y (⟨#[103, 101, 95, 117]⟩ : ByteArray) w false) : mandrellaw02_NumTwos.f 200 op x y = some true := by
  refine cmp_law hw 79 op x y _ (decide (x % W ≥ y % W)) (by omega) (by omega) (by rw [hop]; split <;> omega) hx hy hR ?_ ?_
  · rw [holds_at 79 _ _ hw (mod_in hw) (mod_in hw) (by omega) (by omega), if_neg (by omega), if_neg (by omega), if_neg (by omega), if_neg (by omega), if_neg (by omega), if_neg (by omega), if_neg (by omega), if_neg (by omega), if_neg (by omega)]
  · rw [h_ge_u]
theorem L_add {w W : Int} (hw : Wide w W) (op x y : Int) (hx : 0 ≤ x ∧ x < 18446744073709551616) (hy : 0 ≤ y ∧ y < 18446744073709551616) (hop : op = if w = 32 then 106 else 124) (hR : mandrelref02_Two.f 200 op x y = mandrelref02_Two.j0 200 x y (⟨#[97, 100, 100]⟩ : ByteArray) w false) : mandrellaw02_NumTwos.f 200 op x y = some true := by
  refine law2_ok op x y (IntKind.u64.wrap (x % W + (y % W)) % W) 0 (prog_at hw 106 op x y _ 0 (by omega) (by omega) (by rw [hop]; split <;> omega) hx hy ?_ (wrap_bounds _)) ?_
  · unfold num_wide_reckon.f
    rw [if_pos (by omega)]
  · rw [hR, n_add x y w _ _ (ref_low hw x hx.1 hx.2) (ref_low hw y hy.1 hy.2), ref_low hw _ (wrap_bounds _).1 (wrap_bounds _).2, Option.bind_some]
theorem L_sub {w W : Int} (hw : Wide w W) (op x y : Int) (hx : 0 ≤ x ∧ x < 18446744073709551616) (hy : 0 ≤ y ∧ y < 18446744073709551616) (hop : op = if w = 32 then 107 else 125) (hR : mandrelref02_Two.f 200 op x y = mandrelref02_Two.j0 200 x y (⟨#[115, 117, 98]⟩ : ByteArray) w false) : mandrellaw02_NumTwos.f 200 op x y = some true := by
  refine law2_ok op x y (IntKind.u64.wrap (x % W - (y % W)) % W) 0 (prog_at hw 107 op x y _ 0 (by omega) (by omega) (by rw [hop]; split <;> omega) hx hy ?_ (wrap_bounds _)) ?_
  · unfold num_wide_reckon.f
    rw [if_neg (by omega), if_pos (by omega)]
  · rw [hR, n_sub x y w _ _ (ref_low hw x hx.1 hx.2) (ref_low hw y hy.1 hy.2), ref_low hw _ (wrap_bounds _).1 (wrap_bounds _).2, Option.bind_some]
theorem L_mul {w W : Int} (hw : Wide w W) (op x y : Int) (hx : 0 ≤ x ∧ x < 18446744073709551616) (hy : 0 ≤ y ∧ y < 18446744073709551616) (hop : op = if w = 32 then 108 else 126) (hR : mandrelref02_Two.f 200 op x y = mandrelref02_Two.j0 200 x y (⟨#[109, 117, 108]⟩ : ByteArray) w false) : mandrellaw02_NumTwos.f 200 op x y = some true := by
  refine law2_ok op x y (IntKind.u64.wrap (x % W * (y % W)) % W) 0 (prog_at hw 108 op x y _ 0 (by omega) (by omega) (by rw [hop]; split <;> omega) hx hy ?_ (wrap_bounds _)) ?_
  · unfold num_wide_reckon.f
    rw [if_neg (by omega), if_neg (by omega), if_pos (by omega)]
  · rw [hR, n_mul x y w _ _ (ref_low hw x hx.1 hx.2) (ref_low hw y hy.1 hy.2), ref_low hw _ (wrap_bounds _).1 (wrap_bounds _).2, Option.bind_some]
theorem L_div_s {w W : Int} (hw : Wide w W) (op x y : Int) (hx : 0 ≤ x ∧ x < 18446744073709551616) (hy : 0 ≤ y ∧ y < 18446744073709551616) (hop : op = if w = 32 then 109 else 127) (hR : mandrelref02_Two.f 200 op x y = mandrelref02_Two.j0 200 x y (⟨#[100, 105, 118, 95, 115]⟩ : ByteArray) w false) : mandrellaw02_NumTwos.f 200 op x y = some true := by
  have hpl := prog_low hw 109 op x y (by omega) (by omega) (by rw [hop]; split <;> omega) hx hy
  have hRR := hR.trans (n_div_s x y w _ _ (ref_low hw x hx.1 hx.2) (ref_low hw y hy.1 hy.2))
  by_cases h0 : y % W = 0
  · refine law2_ok op x y 0 2 ?_ ?_
    · rw [hpl, h0]
      exact Two_zero 196 hw 109 op (x % W) (by omega) (by omega) (by rw [hop]; split <;> omega) (mod_in hw).1 (mod_in hw).2
    · rw [hRR, h0, ref_div0, Option.bind_some]
  · have hy0 : 0 < y % W := by have := (mod_in (x := y) hw).1; omega
    refine law2_ok op x y (if sg W (y % W) = -1 ∧ sg W (x % W) = -(W / 2) then 0 else Int.tdiv (sg W (x % W)) (sg W (y % W)) % W) (if sg W (y % W) = -1 ∧ sg W (x % W) = -(W / 2) then 3 else 0) ?_ ?_
    · refine hpl.trans ((Two_divs 196 hw op (x % W) (y % W) hop (mod_in hw).1 (mod_in hw).2 hy0 (mod_in hw).2).trans ?_)
      split <;> rfl
    · rw [hRR, ref_divs hw (x % W) (y % W) (mod_in hw).1 (mod_in hw).2 hy0 (mod_in hw).2, Option.bind_some]
      split <;> rfl
theorem L_div_u {w W : Int} (hw : Wide w W) (op x y : Int) (hx : 0 ≤ x ∧ x < 18446744073709551616) (hy : 0 ≤ y ∧ y < 18446744073709551616) (hop : op = if w = 32 then 110 else 128) (hR : mandrelref02_Two.f 200 op x y = mandrelref02_Two.j0 200 x y (⟨#[100, 105, 118, 95, 117]⟩ : ByteArray) w false) : mandrellaw02_NumTwos.f 200 op x y = some true := by
  have hpl := prog_low hw 110 op x y (by omega) (by omega) (by rw [hop]; split <;> omega) hx hy
  have hRR := hR.trans (n_div_u x y w _ _ (ref_low hw x hx.1 hx.2) (ref_low hw y hy.1 hy.2))
  by_cases h0 : y % W = 0
  · refine law2_ok op x y 0 2 ?_ ?_
    · rw [hpl, h0]
      exact Two_zero 196 hw 110 op (x % W) (by omega) (by omega) (by rw [hop]; split <;> omega) (mod_in hw).1 (mod_in hw).2
    · rw [hRR, h0, ref_div0, Option.bind_some]
  · have hy0 : 0 < y % W := by have := (mod_in (x := y) hw).1; omega
    refine law2_ok op x y (x % W / (y % W)) 0 ?_ ?_
    · refine hpl.trans ((Two_divu 196 hw op (x % W) (y % W) hop (mod_in hw).1 (mod_in hw).2 hy0 (mod_in hw).2).trans ?_)
      rfl
    · rw [hRR, ref_divu (x % W) (y % W) (mod_in hw).1 (Int.lt_of_lt_of_le (mod_in hw).2 hw.le) hy0, Option.bind_some]
theorem L_rem_s {w W : Int} (hw : Wide w W) (op x y : Int) (hx : 0 ≤ x ∧ x < 18446744073709551616) (hy : 0 ≤ y ∧ y < 18446744073709551616) (hop : op = if w = 32 then 111 else 129) (hR : mandrelref02_Two.f 200 op x y = mandrelref02_Two.j0 200 x y (⟨#[114, 101, 109, 95, 115]⟩ : ByteArray) w false) : mandrellaw02_NumTwos.f 200 op x y = some true := by
  have hpl := prog_low hw 111 op x y (by omega) (by omega) (by rw [hop]; split <;> omega) hx hy
  have hRR := hR.trans (n_rem_s x y w _ _ (ref_low hw x hx.1 hx.2) (ref_low hw y hy.1 hy.2))
  by_cases h0 : y % W = 0
  · refine law2_ok op x y 0 2 ?_ ?_
    · rw [hpl, h0]
      exact Two_zero 196 hw 111 op (x % W) (by omega) (by omega) (by rw [hop]; split <;> omega) (mod_in hw).1 (mod_in hw).2
    · rw [hRR, h0, ref_div0, Option.bind_some]
  · have hy0 : 0 < y % W := by have := (mod_in (x := y) hw).1; omega
    refine law2_ok op x y (Int.tmod (sg W (x % W)) (sg W (y % W)) % W) 0 ?_ ?_
    · refine hpl.trans ((Two_rems 196 hw op (x % W) (y % W) hop (mod_in hw).1 (mod_in hw).2 hy0 (mod_in hw).2).trans ?_)
      rfl
    · rw [hRR, ref_rems hw (x % W) (y % W) (mod_in hw).1 (mod_in hw).2 hy0 (mod_in hw).2, Option.bind_some]
theorem L_rem_u {w W : Int} (hw : Wide w W) (op x y : Int) (hx : 0 ≤ x ∧ x < 18446744073709551616) (hy : 0 ≤ y ∧ y < 18446744073709551616) (hop : op = if w = 32 then 112 else 130) (hR : mandrelref02_Two.f 200 op x y = mandrelref02_Two.j0 200 x y (⟨#[114, 101, 109, 95, 117]⟩ : ByteArray) w false) : mandrellaw02_NumTwos.f 200 op x y = some true := by
  have hpl := prog_low hw 112 op x y (by omega) (by omega) (by rw [hop]; split <;> omega) hx hy
  have hRR := hR.trans (n_rem_u x y w _ _ (ref_low hw x hx.1 hx.2) (ref_low hw y hy.1 hy.2))
  by_cases h0 : y % W = 0
  · refine law2_ok op x y 0 2 ?_ ?_
    · rw [hpl, h0]
      exact Two_zero 196 hw 112 op (x % W) (by omega) (by omega) (by rw [hop]; split <;> omega) (mod_in hw).1 (mod_in hw).2
    · rw [hRR, h0, ref_div0, Option.bind_some]
  · have hy0 : 0 < y % W := by have := (mod_in (x := y) hw).1; omega
    refine law2_ok op x y (x % W % (y % W)) 0 ?_ ?_
    · refine hpl.trans ((Two_remu 196 hw op (x % W) (y % W) hop (mod_in hw).1 (mod_in hw).2 hy0 (mod_in hw).2).trans ?_)
      rfl
    · rw [hRR, ref_remu (x % W) (y % W) (mod_in hw).1 hy0, Option.bind_some]
theorem L_and {w : Nat} {W : Int} (hw : Wide (w : Int) W) (op x y : Int) (hx : 0 ≤ x ∧ x < 18446744073709551616) (hy : 0 ≤ y ∧ y < 18446744073709551616) (hop : op = if (w : Int) = 32 then 113 else 131) (hR : mandrelref02_Two.f 200 op x y = mandrelref02_Two.j0 200 x y (⟨#[97, 110, 100]⟩ : ByteArray) (w : Int) false) : mandrellaw02_NumTwos.f 200 op x y = some true := by
  have hW := W_pow hw
  have hwp : 1 ≤ w ∧ w ≤ 64 := by rcases hw with ⟨h, _⟩ | ⟨h, _⟩ <;> omega
  have hw64 : (2 : Nat) ^ w ≤ 18446744073709551616 := Nat.pow_le_pow_right (n := 2) (by decide) hwp.2
  obtain ⟨X, eX⟩ : ∃ n : Nat, x % W = (n : Int) := ⟨(x % W).toNat, by have := (mod_in (x := x) hw).1; omega⟩
  obtain ⟨Y, eY⟩ : ∃ n : Nat, y % W = (n : Int) := ⟨(y % W).toNat, by have := (mod_in (x := y) hw).1; omega⟩
  have hX : X < 2 ^ w := by have := (mod_in (x := x) hw).2; omega
  have hY : Y < 2 ^ w := by have := (mod_in (x := y) hw).2; omega
  have hv : X &&& Y < 2 ^ w := Nat.lt_of_le_of_lt Nat.and_le_left hX
  have hb := bits_and_u64_nat X Y (by omega) (by omega)
  have e : ((X &&& Y : Nat) : Int) % W = ((X &&& Y : Nat) : Int) := Int.emod_eq_of_lt (Int.natCast_nonneg _) (by omega)
  refine law2_ok op x y ((X &&& Y : Nat) : Int) 0 ?_ ?_
  · have h := prog_at hw 113 op x y ((X &&& Y : Nat) : Int) 0 (by omega) (by omega) (by rw [hop]; split <;> omega) hx hy ?_ ⟨Int.natCast_nonneg _, by omega⟩
    · rw [e] at h; exact h
    · unfold num_wide_reckon.f
      rw [if_neg (by omega), if_neg (by omega), if_neg (by omega), if_neg (by omega), if_pos (by omega), eX, eY, hb]
  · rw [hR, n_and x y _ _ _ (ref_low hw x hx.1 hx.2) (ref_low hw y hy.1 hy.2), eX, eY, bw_and X Y w hwp.1 hwp.2 hX]
theorem L_or {w : Nat} {W : Int} (hw : Wide (w : Int) W) (op x y : Int) (hx : 0 ≤ x ∧ x < 18446744073709551616) (hy : 0 ≤ y ∧ y < 18446744073709551616) (hop : op = if (w : Int) = 32 then 114 else 132) (hR : mandrelref02_Two.f 200 op x y = mandrelref02_Two.j0 200 x y (⟨#[111, 114]⟩ : ByteArray) (w : Int) false) : mandrellaw02_NumTwos.f 200 op x y = some true := by
  have hW := W_pow hw
  have hwp : 1 ≤ w ∧ w ≤ 64 := by rcases hw with ⟨h, _⟩ | ⟨h, _⟩ <;> omega
  have hw64 : (2 : Nat) ^ w ≤ 18446744073709551616 := Nat.pow_le_pow_right (n := 2) (by decide) hwp.2
  obtain ⟨X, eX⟩ : ∃ n : Nat, x % W = (n : Int) := ⟨(x % W).toNat, by have := (mod_in (x := x) hw).1; omega⟩
  obtain ⟨Y, eY⟩ : ∃ n : Nat, y % W = (n : Int) := ⟨(y % W).toNat, by have := (mod_in (x := y) hw).1; omega⟩
  have hX : X < 2 ^ w := by have := (mod_in (x := x) hw).2; omega
  have hY : Y < 2 ^ w := by have := (mod_in (x := y) hw).2; omega
  have hv : X ||| Y < 2 ^ w := Nat.or_lt_two_pow hX hY
  have hb := bits_or_u64_nat X Y (by omega) (by omega)
  have e : ((X ||| Y : Nat) : Int) % W = ((X ||| Y : Nat) : Int) := Int.emod_eq_of_lt (Int.natCast_nonneg _) (by omega)
  refine law2_ok op x y ((X ||| Y : Nat) : Int) 0 ?_ ?_
  · have h := prog_at hw 114 op x y ((X ||| Y : Nat) : Int) 0 (by omega) (by omega) (by rw [hop]; split <;> omega) hx hy ?_ ⟨Int.natCast_nonneg _, by omega⟩
    · rw [e] at h; exact h
    · unfold num_wide_reckon.f
      rw [if_neg (by omega), if_neg (by omega), if_neg (by omega), if_neg (by omega), if_neg (by omega), if_pos (by omega), eX, eY, hb]
  · rw [hR, n_or x y _ _ _ (ref_low hw x hx.1 hx.2) (ref_low hw y hy.1 hy.2), eX, eY, bw_or X Y w hwp.1 hwp.2 hX hY]
theorem L_xor {w : Nat} {W : Int} (hw : Wide (w : Int) W) (op x y : Int) (hx : 0 ≤ x ∧ x < 18446744073709551616) (hy : 0 ≤ y ∧ y < 18446744073709551616) (hop : op = if (w : Int) = 32 then 115 else 133) (hR : mandrelref02_Two.f 200 op x y = mandrelref02_Two.j0 200 x y (⟨#[120, 111, 114]⟩ : ByteArray) (w : Int) false) : mandrellaw02_NumTwos.f 200 op x y = some true := by
  have hW := W_pow hw
  have hwp : 1 ≤ w ∧ w ≤ 64 := by rcases hw with ⟨h, _⟩ | ⟨h, _⟩ <;> omega
  have hw64 : (2 : Nat) ^ w ≤ 18446744073709551616 := Nat.pow_le_pow_right (n := 2) (by decide) hwp.2
  obtain ⟨X, eX⟩ : ∃ n : Nat, x % W = (n : Int) := ⟨(x % W).toNat, by have := (mod_in (x := x) hw).1; omega⟩
  obtain ⟨Y, eY⟩ : ∃ n : Nat, y % W = (n : Int) := ⟨(y % W).toNat, by have := (mod_in (x := y) hw).1; omega⟩
  have hX : X < 2 ^ w := by have := (mod_in (x := x) hw).2; omega
  have hY : Y < 2 ^ w := by have := (mod_in (x := y) hw).2; omega
  have hv : X ^^^ Y < 2 ^ w := Nat.xor_lt_two_pow hX hY
  have hb := bits_xor_nat X Y (by omega) (by omega)
  have e : ((X ^^^ Y : Nat) : Int) % W = ((X ^^^ Y : Nat) : Int) := Int.emod_eq_of_lt (Int.natCast_nonneg _) (by omega)
  refine law2_ok op x y ((X ^^^ Y : Nat) : Int) 0 ?_ ?_
  · have h := prog_at hw 115 op x y ((X ^^^ Y : Nat) : Int) 0 (by omega) (by omega) (by rw [hop]; split <;> omega) hx hy ?_ ⟨Int.natCast_nonneg _, by omega⟩
    · rw [e] at h; exact h
    · unfold num_wide_reckon.f
      rw [if_neg (by omega), if_neg (by omega), if_neg (by omega), if_neg (by omega), if_neg (by omega), if_neg (by omega), if_pos (by omega), eX, eY, hb]
  · rw [hR, n_xor x y _ _ _ (ref_low hw x hx.1 hx.2) (ref_low hw y hy.1 hy.2), eX, eY, bw_xor X Y w hwp.1 hwp.2 hX hY]
theorem sar_prog {w : Nat} {W : Int} (hw : Wide (w : Int) W) (X r : Nat) (hX : X < 2 ^ w) (hr : r < w) : ∃ t : Int, IntKind.u64.wrap (shr .i64 (sg W (X : Int)) (r : Int)) = t ∧ 0 ≤ t ∧ t < 18446744073709551616 ∧ t % W = (sar w r X : Int) := by
  have hW := W_pow hw
  have hwp : 1 ≤ w ∧ w ≤ 64 := by rcases hw with ⟨h, _⟩ | ⟨h, _⟩ <;> omega
  refine ⟨_, rfl, (wrap_bounds _).1, (wrap_bounds _).2, ?_⟩
  have es : shr .i64 (sg W (X : Int)) (r : Int) = sg W (X : Int) / ((2 ^ r : Nat) : Int) := by
    unfold shr
    rw [Int.toNat_natCast, Nat.min_eq_left (show r ≤ IntKind.i64.bits by show r ≤ 64; omega)]
    simp
  rw [wrap_mod hw, es]
  have e2 : (2 : Nat) ^ w = 2 ^ (w - 1) * 2 := by rw [← Nat.pow_succ, Nat.succ_eq_add_one, show w - 1 + 1 = w by omega]
  have hl := sar_lt w r X (by omega) hX
  have hp : 0 < 2 ^ r := Nat.pow_pos (by decide)
  unfold sg sar at *
  by_cases h : X < 2 ^ (w - 1)
  · rw [if_pos h] at hl ⊢
    rw [if_pos (by omega), ← Int.natCast_ediv]
    exact Int.emod_eq_of_lt (Int.natCast_nonneg _) (by omega)
  · rw [if_neg h] at hl ⊢
    rw [if_neg (by omega)]
    have e3 : (X : Int) - W = (X : Int) + ((2 ^ r : Nat) : Int) * (-((2 ^ (w - r) : Nat) : Int)) := by
      rw [hW, pow_add' w r (by omega), Int.mul_neg, ← Int.natCast_mul, Nat.mul_comm (2 ^ r)]; omega
    rw [e3, Int.add_mul_ediv_left _ _ (by omega), ← Int.natCast_ediv]
    have e4 : ((2 ^ (w - r) * (2 ^ r - 1) + X / 2 ^ r : Nat) : Int) = ((X / 2 ^ r : Nat) : Int) + (-((2 ^ (w - r) : Nat) : Int)) + W * 1 := by
      rw [hW, pow_add' w r (by omega), Nat.mul_sub, Nat.mul_one]
      have := Nat.le_mul_of_pos_right (2 ^ (w - r)) hp
      omega
    have e5 := Int.emod_eq_of_lt (Int.natCast_nonneg (2 ^ (w - r) * (2 ^ r - 1) + X / 2 ^ r)) (show ((2 ^ (w - r) * (2 ^ r - 1) + X / 2 ^ r : Nat) : Int) < W by omega)
    rw [← e5, e4, Int.add_mul_emod_self_left]
theorem L_shl {w : Nat} {W : Int} (hw : Wide (w : Int) W) (op x y : Int) (hx : 0 ≤ x ∧ x < 18446744073709551616) (hy : 0 ≤ y ∧ y < 18446744073709551616) (hop : op = if (w : Int) = 32 then 116 else 134) (hR : mandrelref02_Two.f 200 op x y = mandrelref02_Two.j0 200 x y (⟨#[115, 104, 108]⟩ : ByteArray) (w : Int) false) : mandrellaw02_NumTwos.f 200 op x y = some true := by
  have hW := W_pow hw
  have hwp : 1 ≤ w ∧ w ≤ 64 := by rcases hw with ⟨h, _⟩ | ⟨h, _⟩ <;> omega
  have hw64 : (2 : Nat) ^ w ≤ 18446744073709551616 := Nat.pow_le_pow_right (n := 2) (by decide) hwp.2
  obtain ⟨X, eX⟩ : ∃ n : Nat, x % W = (n : Int) := ⟨(x % W).toNat, by have := (mod_in (x := x) hw).1; omega⟩
  obtain ⟨Y, eY⟩ : ∃ n : Nat, y % W = (n : Int) := ⟨(y % W).toNat, by have := (mod_in (x := y) hw).1; omega⟩
  have hX : X < 2 ^ w := by have := (mod_in (x := x) hw).2; omega
  have hr := Nat.mod_lt Y (show 0 < w by omega)
  have hr2 := Nat.mod_lt (w - Y % w) (show 0 < w by omega)
  have ewrap : IntKind.u64.wrap (w : Int) = (w : Int) := wrapn w (by omega)
  have earg : wrap64 (Int.tmod (Y : Int) (IntKind.u64.wrap (w : Int))) = ((Y % w : Nat) : Int) := by rw [ewrap, nat_tmod, w64_nat _ (by omega)]
  have hturn : ∃ t : Int, num_wide_turn.f (w : Int) 116 (X : Int) (Y : Int) = some t ∧ 0 ≤ t ∧ t < 18446744073709551616 ∧ t % W = ((X * 2 ^ (Y % w) % 2 ^ w : Nat) : Int) := by
    refine ⟨_, (turn_at hw X Y).1, ?_⟩
    rw [shl_nat X _ (Nat.le_trans (Nat.le_of_lt hr) hwp.2)]
    refine ⟨Int.natCast_nonneg _, by have := Nat.mod_lt (X * 2 ^ (Y % w)) (show 0 < 18446744073709551616 by decide); omega, ?_⟩
    rw [hW, ← Int.natCast_emod, Nat.mod_mod_of_dvd _ (pow_dvd w hwp.2)]
  obtain ⟨t, t1, t2, t3, t4⟩ := hturn
  refine law2_ok op x y ((X * 2 ^ (Y % w) % 2 ^ w : Nat) : Int) 0 ?_ ?_
  · have h := prog_at hw 116 op x y t 0 (by omega) (by omega) (by rw [hop]; split <;> omega) hx hy ?_ ⟨t2, t3⟩
    · rw [t4] at h; exact h
    · unfold num_wide_reckon.f
      rw [if_neg (by omega), if_neg (by omega), if_neg (by omega), if_neg (by omega), if_neg (by omega), if_neg (by omega), if_neg (by omega), eX, eY, t1, Option.bind_some]
  · rw [hR, n_shl x y _ _ _ (ref_low hw x hx.1 hx.2) (ref_low hw y hy.1 hy.2) (by rw [ewrap]; omega), eX, eY, earg, mv_shl X (Y % w) w hwp.2 hr, Option.bind_some]
theorem L_shr_s {w : Nat} {W : Int} (hw : Wide (w : Int) W) (op x y : Int) (hx : 0 ≤ x ∧ x < 18446744073709551616) (hy : 0 ≤ y ∧ y < 18446744073709551616) (hop : op = if (w : Int) = 32 then 117 else 135) (hR : mandrelref02_Two.f 200 op x y = mandrelref02_Two.j0 200 x y (⟨#[115, 104, 114, 95, 115]⟩ : ByteArray) (w : Int) false) : mandrellaw02_NumTwos.f 200 op x y = some true := by
  have hW := W_pow hw
  have hwp : 1 ≤ w ∧ w ≤ 64 := by rcases hw with ⟨h, _⟩ | ⟨h, _⟩ <;> omega
  have hw64 : (2 : Nat) ^ w ≤ 18446744073709551616 := Nat.pow_le_pow_right (n := 2) (by decide) hwp.2
  obtain ⟨X, eX⟩ : ∃ n : Nat, x % W = (n : Int) := ⟨(x % W).toNat, by have := (mod_in (x := x) hw).1; omega⟩
  obtain ⟨Y, eY⟩ : ∃ n : Nat, y % W = (n : Int) := ⟨(y % W).toNat, by have := (mod_in (x := y) hw).1; omega⟩
  have hX : X < 2 ^ w := by have := (mod_in (x := x) hw).2; omega
  have hr := Nat.mod_lt Y (show 0 < w by omega)
  have hr2 := Nat.mod_lt (w - Y % w) (show 0 < w by omega)
  have ewrap : IntKind.u64.wrap (w : Int) = (w : Int) := wrapn w (by omega)
  have earg : wrap64 (Int.tmod (Y : Int) (IntKind.u64.wrap (w : Int))) = ((Y % w : Nat) : Int) := by rw [ewrap, nat_tmod, w64_nat _ (by omega)]
  have hturn : ∃ t : Int, num_wide_turn.f (w : Int) 117 (X : Int) (Y : Int) = some t ∧ 0 ≤ t ∧ t < 18446744073709551616 ∧ t % W = (sar w (Y % w) X : Int) := by
    obtain ⟨t, a1, a2, a3, a4⟩ := sar_prog hw X (Y % w) hX hr
    refine ⟨t, ?_, a2, a3, a4⟩
    unfold num_wide_turn.f
    rw [ewrap, nat_tmod, if_neg (by omega), if_neg (by omega), if_pos (by omega), signed_in hw (Int.natCast_nonneg _) (by omega), Option.bind_some, if_pos (Int.natCast_nonneg _), a1]
  obtain ⟨t, t1, t2, t3, t4⟩ := hturn
  refine law2_ok op x y ((sar w (Y % w) X : Nat) : Int) 0 ?_ ?_
  · have h := prog_at hw 117 op x y t 0 (by omega) (by omega) (by rw [hop]; split <;> omega) hx hy ?_ ⟨t2, t3⟩
    · rw [t4] at h; exact h
    · unfold num_wide_reckon.f
      rw [if_neg (by omega), if_neg (by omega), if_neg (by omega), if_neg (by omega), if_neg (by omega), if_neg (by omega), if_neg (by omega), eX, eY, t1, Option.bind_some]
  · rw [hR, n_shr_s x y _ _ _ (ref_low hw x hx.1 hx.2) (ref_low hw y hy.1 hy.2) (by rw [ewrap]; omega), eX, eY, earg, mv_shrs X (Y % w) w hwp.2 hr hX, Option.bind_some]
theorem L_shr_u {w : Nat} {W : Int} (hw : Wide (w : Int) W) (op x y : Int) (hx : 0 ≤ x ∧ x < 18446744073709551616) (hy : 0 ≤ y ∧ y < 18446744073709551616) (hop : op = if (w : Int) = 32 then 118 else 136) (hR : mandrelref02_Two.f 200 op x y = mandrelref02_Two.j0 200 x y (⟨#[115, 104, 114, 95, 117]⟩ : ByteArray) (w : Int) false) : mandrellaw02_NumTwos.f 200 op x y = some true := by
  have hW := W_pow hw
  have hwp : 1 ≤ w ∧ w ≤ 64 := by rcases hw with ⟨h, _⟩ | ⟨h, _⟩ <;> omega
  have hw64 : (2 : Nat) ^ w ≤ 18446744073709551616 := Nat.pow_le_pow_right (n := 2) (by decide) hwp.2
  obtain ⟨X, eX⟩ : ∃ n : Nat, x % W = (n : Int) := ⟨(x % W).toNat, by have := (mod_in (x := x) hw).1; omega⟩
  obtain ⟨Y, eY⟩ : ∃ n : Nat, y % W = (n : Int) := ⟨(y % W).toNat, by have := (mod_in (x := y) hw).1; omega⟩
  have hX : X < 2 ^ w := by have := (mod_in (x := x) hw).2; omega
  have hr := Nat.mod_lt Y (show 0 < w by omega)
  have hr2 := Nat.mod_lt (w - Y % w) (show 0 < w by omega)
  have ewrap : IntKind.u64.wrap (w : Int) = (w : Int) := wrapn w (by omega)
  have earg : wrap64 (Int.tmod (Y : Int) (IntKind.u64.wrap (w : Int))) = ((Y % w : Nat) : Int) := by rw [ewrap, nat_tmod, w64_nat _ (by omega)]
  have hturn : ∃ t : Int, num_wide_turn.f (w : Int) 118 (X : Int) (Y : Int) = some t ∧ 0 ≤ t ∧ t < 18446744073709551616 ∧ t % W = ((X / 2 ^ (Y % w) : Nat) : Int) := by
    have hq := Nat.div_le_self X (2 ^ (Y % w))
    refine ⟨_, (turn_at hw X Y).2.1, ?_⟩
    rw [shr_nat X _ (Nat.le_trans (Nat.le_of_lt hr) hwp.2)]
    exact ⟨Int.natCast_nonneg _, by omega, Int.emod_eq_of_lt (Int.natCast_nonneg _) (by omega)⟩
  obtain ⟨t, t1, t2, t3, t4⟩ := hturn
  refine law2_ok op x y ((X / 2 ^ (Y % w) : Nat) : Int) 0 ?_ ?_
  · have h := prog_at hw 118 op x y t 0 (by omega) (by omega) (by rw [hop]; split <;> omega) hx hy ?_ ⟨t2, t3⟩
    · rw [t4] at h; exact h
    · unfold num_wide_reckon.f
      rw [if_neg (by omega), if_neg (by omega), if_neg (by omega), if_neg (by omega), if_neg (by omega), if_neg (by omega), if_neg (by omega), eX, eY, t1, Option.bind_some]
  · rw [hR, n_shr_u x y _ _ _ (ref_low hw x hx.1 hx.2) (ref_low hw y hy.1 hy.2) (by rw [ewrap]; omega), eX, eY, earg, mv_shru X (Y % w) w hwp.2 hr hX, Option.bind_some]
theorem L_rotl {w : Nat} {W : Int} (hw : Wide (w : Int) W) (op x y : Int) (hx : 0 ≤ x ∧ x < 18446744073709551616) (hy : 0 ≤ y ∧ y < 18446744073709551616) (hop : op = if (w : Int) = 32 then 119 else 137) (hR : mandrelref02_Two.f 200 op x y = mandrelref02_Two.j0 200 x y (⟨#[114, 111, 116, 108]⟩ : ByteArray) (w : Int) false) : mandrellaw02_NumTwos.f 200 op x y = some true := by
  have hW := W_pow hw
  have hwp : 1 ≤ w ∧ w ≤ 64 := by rcases hw with ⟨h, _⟩ | ⟨h, _⟩ <;> omega
  have hw64 : (2 : Nat) ^ w ≤ 18446744073709551616 := Nat.pow_le_pow_right (n := 2) (by decide) hwp.2
  obtain ⟨X, eX⟩ : ∃ n : Nat, x % W = (n : Int) := ⟨(x % W).toNat, by have := (mod_in (x := x) hw).1; omega⟩
  obtain ⟨Y, eY⟩ : ∃ n : Nat, y % W = (n : Int) := ⟨(y % W).toNat, by have := (mod_in (x := y) hw).1; omega⟩
  have hX : X < 2 ^ w := by have := (mod_in (x := x) hw).2; omega
  have hr := Nat.mod_lt Y (show 0 < w by omega)
  have hr2 := Nat.mod_lt (w - Y % w) (show 0 < w by omega)
  have ewrap : IntKind.u64.wrap (w : Int) = (w : Int) := wrapn w (by omega)
  have earg : wrap64 (Int.tmod (Y : Int) (IntKind.u64.wrap (w : Int))) = ((Y % w : Nat) : Int) := by rw [ewrap, nat_tmod, w64_nat _ (by omega)]
  have hturn : ∃ t : Int, num_wide_turn.f (w : Int) 119 (X : Int) (Y : Int) = some t ∧ 0 ≤ t ∧ t < 18446744073709551616 ∧ t % W = ((rot w (Y % w) X : Nat) : Int) := by
    obtain ⟨t, a1, a2, a3⟩ := turned w (Y % w) X (Nat.le_of_lt hr) hwp.2 hX
    refine ⟨t, (turn_at hw X Y).2.2.1.trans (congrArg some a1), Int.natCast_nonneg _, by omega, ?_⟩
    rw [hW, ← Int.natCast_emod, a3]
  obtain ⟨t, t1, t2, t3, t4⟩ := hturn
  refine law2_ok op x y ((rot w (Y % w) X : Nat) : Int) 0 ?_ ?_
  · have h := prog_at hw 119 op x y t 0 (by omega) (by omega) (by rw [hop]; split <;> omega) hx hy ?_ ⟨t2, t3⟩
    · rw [t4] at h; exact h
    · unfold num_wide_reckon.f
      rw [if_neg (by omega), if_neg (by omega), if_neg (by omega), if_neg (by omega), if_neg (by omega), if_neg (by omega), if_neg (by omega), eX, eY, t1, Option.bind_some]
  · rw [hR, n_rotl x y _ _ _ (ref_low hw x hx.1 hx.2) (ref_low hw y hy.1 hy.2) (by rw [ewrap]; omega), eX, eY, earg, mv_rotl X (Y % w) w hwp.2 hr hX, Option.bind_some]
theorem L_rotr {w : Nat} {W : Int} (hw : Wide (w : Int) W) (op x y : Int) (hx : 0 ≤ x ∧ x < 18446744073709551616) (hy : 0 ≤ y ∧ y < 18446744073709551616) (hop : op = if (w : Int) = 32 then 120 else 138) (hR : mandrelref02_Two.f 200 op x y = mandrelref02_Two.j0 200 x y (⟨#[114, 111, 116, 114]⟩ : ByteArray) (w : Int) false) : mandrellaw02_NumTwos.f 200 op x y = some true := by
  have hW := W_pow hw
  have hwp : 1 ≤ w ∧ w ≤ 64 := by rcases hw with ⟨h, _⟩ | ⟨h, _⟩ <;> omega
  have hw64 : (2 : Nat) ^ w ≤ 18446744073709551616 := Nat.pow_le_pow_right (n := 2) (by decide) hwp.2
  obtain ⟨X, eX⟩ : ∃ n : Nat, x % W = (n : Int) := ⟨(x % W).toNat, by have := (mod_in (x := x) hw).1; omega⟩
  obtain ⟨Y, eY⟩ : ∃ n : Nat, y % W = (n : Int) := ⟨(y % W).toNat, by have := (mod_in (x := y) hw).1; omega⟩
  have hX : X < 2 ^ w := by have := (mod_in (x := x) hw).2; omega
  have hr := Nat.mod_lt Y (show 0 < w by omega)
  have hr2 := Nat.mod_lt (w - Y % w) (show 0 < w by omega)
  have ewrap : IntKind.u64.wrap (w : Int) = (w : Int) := wrapn w (by omega)
  have earg : wrap64 (Int.tmod (Y : Int) (IntKind.u64.wrap (w : Int))) = ((Y % w : Nat) : Int) := by rw [ewrap, nat_tmod, w64_nat _ (by omega)]
  have hturn : ∃ t : Int, num_wide_turn.f (w : Int) 120 (X : Int) (Y : Int) = some t ∧ 0 ≤ t ∧ t < 18446744073709551616 ∧ t % W = ((rot w ((w - Y % w) % w) X : Nat) : Int) := by
    obtain ⟨t, a1, a2, a3⟩ := turned w ((w - Y % w) % w) X (Nat.le_of_lt hr2) hwp.2 hX
    refine ⟨t, (turn_at hw X Y).2.2.2.trans (congrArg some a1), Int.natCast_nonneg _, by omega, ?_⟩
    rw [hW, ← Int.natCast_emod, a3]
  obtain ⟨t, t1, t2, t3, t4⟩ := hturn
  refine law2_ok op x y ((rot w ((w - Y % w) % w) X : Nat) : Int) 0 ?_ ?_
  · have h := prog_at hw 120 op x y t 0 (by omega) (by omega) (by rw [hop]; split <;> omega) hx hy ?_ ⟨t2, t3⟩
    · rw [t4] at h; exact h
    · unfold num_wide_reckon.f
      rw [if_neg (by omega), if_neg (by omega), if_neg (by omega), if_neg (by omega), if_neg (by omega), if_neg (by omega), if_neg (by omega), eX, eY, t1, Option.bind_some]
  · rw [hR, n_rotr x y _ _ _ (ref_low hw x hx.1 hx.2) (ref_low hw y hy.1 hy.2) (by rw [ewrap]; omega), eX, eY, earg, mv_rotr X (Y % w) w hwp.2 hr hX, Option.bind_some]
/-- No instruction of two operands. -/
def chk2 (op : Int) : Bool := match mandrelref02_Name.f 200 op with
  | some (n, _) => if n.toList = ([] : List UInt8) then true else (match mandrelref02_Alone.f n with | some b => b | none => false)
  | none => false
theorem chk2_all : ∀ op : Fin 256, op.val ∈ [70, 71, 72, 73, 74, 75, 76, 77, 78, 79, 81, 82, 83, 84, 85, 86, 87, 88, 89, 90, 106, 107, 108, 109, 110, 111, 112, 113, 114, 115, 116, 117, 118, 119, 120, 124, 125, 126, 127, 128, 129, 130, 131, 132, 133, 134, 135, 136, 137, 138] ∨ (op.val ∉ [70, 71, 72, 73, 74, 75, 76, 77, 78, 79, 81, 82, 83, 84, 85, 86, 87, 88, 89, 90, 106, 107, 108, 109, 110, 111, 112, 113, 114, 115, 116, 117, 118, 119, 120, 124, 125, 126, 127, 128, 129, 130, 131, 132, 133, 134, 135, 136, 137, 138] ∧ chk2 (op.val : Int) = true) := by decide +kernel
theorem ref_none2 (op x y : Int) (h : chk2 op = true) : mandrelref02_Two.f 200 op x y = some (0, 0, false) := by
  unfold mandrelref02_Two.f
  unfold chk2 at h
  cases hN : mandrelref02_Name.f 200 op with
  | none => rw [hN] at h; cases h
  | some r =>
    obtain ⟨n, w⟩ := r
    rw [hN] at h
    simp only at h
    rw [Option.bind_some]
    by_cases hE : n.toList = ([] : List UInt8)
    · rw [if_pos hE, mandrelref02_Two.j0, if_pos rfl]
    · rw [if_neg hE] at h
      rw [if_neg hE]
      cases hA : mandrelref02_Alone.f n with
      | none => rw [hA] at h; cases h
      | some b =>
        rw [hA] at h
        have hb : b = true := h
        rw [Option.bind_some, hb, mandrelref02_Two.j0, if_pos rfl]
theorem prog_none2 (op x y : Int) (h : ¬ ((70 ≤ op ∧ op ≤ 79) ∨ (81 ≤ op ∧ op ≤ 90) ∨ (106 ≤ op ∧ op ≤ 120) ∨ (124 ≤ op ∧ op ≤ 138))) : num_Two.f 200 op x y = some (0, 0, some 1) := by
  have j1 : ∀ k, num_Two.j1 (k + 1) op x y 64 false = some (0, 0, some 1) := by
    intro k
    rw [num_Two.j1, if_neg (by simp)]
    split
    · rw [if_neg (by omega)]
    · rfl
  have j0 : ∀ k, num_Two.j0 (k + 2) op x y 64 false = some (0, 0, some 1) := by
    intro k
    rw [num_Two.j0, if_neg (by simp)]
    split
    · rw [decide_eq_false (by omega)]; exact j1 k
    · exact j1 k
  unfold num_Two.f
  split
  · rw [if_neg (by omega)]
    split
    · rw [decide_eq_false (by omega)]; exact j0 198
    · exact j0 198
  · rw [if_neg (by omega)]
    exact j0 198
theorem NumTwos : mandrellaw02_NumTwos.Pure := by
  intro op x y hop hx hy
  have hop := wf_u8 hop
  have hx := wf_u64 hx
  have hy := wf_u64 hy
  refine ⟨200, ?_⟩
  have a32 : Wide ((32 : Nat) : Int) 4294967296 := .inl ⟨rfl, rfl⟩
  have a64 : Wide ((64 : Nat) : Int) 18446744073709551616 := .inr ⟨rfl, rfl⟩
  rcases chk2_all ⟨op.toNat, by omega⟩ with h | h
  · simp only [List.mem_cons, List.not_mem_nil, or_false] at h
    have h2 : op = 70 ∨ op = 71 ∨ op = 72 ∨ op = 73 ∨ op = 74 ∨ op = 75 ∨ op = 76 ∨ op = 77 ∨ op = 78 ∨ op = 79 ∨ op = 81 ∨ op = 82 ∨ op = 83 ∨ op = 84 ∨ op = 85 ∨ op = 86 ∨ op = 87 ∨ op = 88 ∨ op = 89 ∨ op = 90 ∨ op = 106 ∨ op = 107 ∨ op = 108 ∨ op = 109 ∨ op = 110 ∨ op = 111 ∨ op = 112 ∨ op = 113 ∨ op = 114 ∨ op = 115 ∨ op = 116 ∨ op = 117 ∨ op = 118 ∨ op = 119 ∨ op = 120 ∨ op = 124 ∨ op = 125 ∨ op = 126 ∨ op = 127 ∨ op = 128 ∨ op = 129 ∨ op = 130 ∨ op = 131 ∨ op = 132 ∨ op = 133 ∨ op = 134 ∨ op = 135 ∨ op = 136 ∨ op = 137 ∨ op = 138 := by omega
    clear h
    rcases h2 with rfl | rfl | rfl | rfl | rfl | rfl | rfl | rfl | rfl | rfl | rfl | rfl | rfl | rfl | rfl | rfl | rfl | rfl | rfl | rfl | rfl | rfl | rfl | rfl | rfl | rfl | rfl | rfl | rfl | rfl | rfl | rfl | rfl | rfl | rfl | rfl | rfl | rfl | rfl | rfl | rfl | rfl | rfl | rfl | rfl | rfl | rfl | rfl | rfl | rfl
    · exact L_eq a32 70 x y hx hy rfl (r_70 x y)
    · exact L_ne a32 71 x y hx hy rfl (r_71 x y)
    · exact L_lt_s a32 72 x y hx hy rfl (r_72 x y)
    · exact L_lt_u a32 73 x y hx hy rfl (r_73 x y)
    · exact L_gt_s a32 74 x y hx hy rfl (r_74 x y)
    · exact L_gt_u a32 75 x y hx hy rfl (r_75 x y)
    · exact L_le_s a32 76 x y hx hy rfl (r_76 x y)
    · exact L_le_u a32 77 x y hx hy rfl (r_77 x y)
    · exact L_ge_s a32 78 x y hx hy rfl (r_78 x y)
    · exact L_ge_u a32 79 x y hx hy rfl (r_79 x y)
    · exact L_eq a64 81 x y hx hy rfl (r_81 x y)
    · exact L_ne a64 82 x y hx hy rfl (r_82 x y)
    · exact L_lt_s a64 83 x y hx hy rfl (r_83 x y)
    · exact L_lt_u a64 84 x y hx hy rfl (r_84 x y)
    · exact L_gt_s a64 85 x y hx hy rfl (r_85 x y)
    · exact L_gt_u a64 86 x y hx hy rfl (r_86 x y)
    · exact L_le_s a64 87 x y hx hy rfl (r_87 x y)
    · exact L_le_u a64 88 x y hx hy rfl (r_88 x y)
    · exact L_ge_s a64 89 x y hx hy rfl (r_89 x y)
    · exact L_ge_u a64 90 x y hx hy rfl (r_90 x y)
    · exact L_add a32 106 x y hx hy rfl (r_106 x y)
    · exact L_sub a32 107 x y hx hy rfl (r_107 x y)
    · exact L_mul a32 108 x y hx hy rfl (r_108 x y)
    · exact L_div_s a32 109 x y hx hy rfl (r_109 x y)
    · exact L_div_u a32 110 x y hx hy rfl (r_110 x y)
    · exact L_rem_s a32 111 x y hx hy rfl (r_111 x y)
    · exact L_rem_u a32 112 x y hx hy rfl (r_112 x y)
    · exact L_and a32 113 x y hx hy rfl (r_113 x y)
    · exact L_or a32 114 x y hx hy rfl (r_114 x y)
    · exact L_xor a32 115 x y hx hy rfl (r_115 x y)
    · exact L_shl a32 116 x y hx hy rfl (r_116 x y)
    · exact L_shr_s a32 117 x y hx hy rfl (r_117 x y)
    · exact L_shr_u a32 118 x y hx hy rfl (r_118 x y)
    · exact L_rotl a32 119 x y hx hy rfl (r_119 x y)
    · exact L_rotr a32 120 x y hx hy rfl (r_120 x y)
    · exact L_add a64 124 x y hx hy rfl (r_124 x y)
    · exact L_sub a64 125 x y hx hy rfl (r_125 x y)
    · exact L_mul a64 126 x y hx hy rfl (r_126 x y)
    · exact L_div_s a64 127 x y hx hy rfl (r_127 x y)
    · exact L_div_u a64 128 x y hx hy rfl (r_128 x y)
    · exact L_rem_s a64 129 x y hx hy rfl (r_129 x y)
    · exact L_rem_u a64 130 x y hx hy rfl (r_130 x y)
    · exact L_and a64 131 x y hx hy rfl (r_131 x y)
    · exact L_or a64 132 x y hx hy rfl (r_132 x y)
    · exact L_xor a64 133 x y hx hy rfl (r_133 x y)
    · exact L_shl a64 134 x y hx hy rfl (r_134 x y)
    · exact L_shr_s a64 135 x y hx hy rfl (r_135 x y)
    · exact L_shr_u a64 136 x y hx hy rfl (r_136 x y)
    · exact L_rotl a64 137 x y hx hy rfl (r_137 x y)
    · exact L_rotr a64 138 x y hx hy rfl (r_138 x y)
  · refine law2_no op x y (prog_none2 op x y ?_) (ref_none2 op x y ?_)
    · have h1 := h.1
      simp only [List.mem_cons, List.not_mem_nil, or_false] at h1
      omega
    · have e : ((op.toNat : Nat) : Int) = op := by omega
      rw [← e]; exact h.2
end Go.Proofs.YtkpafgnchdohaaaDoor.Pure
