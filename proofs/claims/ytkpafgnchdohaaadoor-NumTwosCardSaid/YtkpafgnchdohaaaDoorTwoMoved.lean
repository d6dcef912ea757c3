/- NumTwos: what the document moves bit by bit. -/
import Derived.Test.YtkpafgnchdohaaaDoorTwoDiv
import Derived.Test.YtkpafgnchdohaaaDoorXNx9
namespace Go.Proofs.YtkpafgnchdohaaaDoor.Pure
open Go Go.RowKit Go.Proofs.YtkpafgnchdohaaaDoor.Num Go.Proofs.YtkpafgnchdohaaaDoor.XN Go.Proofs.YtkpafgnchdohaaaDoorW.PrintWords Go.Proofs.YtkpafgnchdohaaaDoorW.PrintLast Go.Proofs.YtkpafgnchdohaaaDoorW.PrintMore

theorem nat_tmod (a b : Nat) : Int.tmod (a : Int) (b : Int) = ((a % b : Nat) : Int) := by rw [Int.tmod_eq_emod_of_nonneg (Int.natCast_nonneg _)]; rfl
theorem w64_nat (a : Nat) (h : a < 1000) : wrap64 (a : Int) = (a : Int) := w64_in (by omega) (by omega)
theorem w64_succ (a : Nat) (h : a < 1000) : wrap64 ((a : Int) + 1) = ((a + 1 : Nat) : Int) := by rw [w64_in (by omega) (by omega)]; omega
/-- What a loop that lays bits ends with. -/
theorem moved_end (name : ByteArray) (x r w : Nat) (hw1 : 1 ≤ w) (hw : w ≤ 64) (v : Nat) (hv : v < 2 ^ w) (g : Nat → Bool) (hg : ∀ i, i < w → g i = v.testBit i)
    (hs : ∀ (i k : Nat) (l : List Bool), i < w → l.length = i → mandrelref02_moved.l0 (k + 1) name (x : Int) (r : Int) (w : Int) l (i : Int) = mandrelref02_moved.l0 k name (x : Int) (r : Int) (w : Int) (l ++ [g i]) ((i + 1 : Nat) : Int)) :
    mandrelref02_moved.f 197 name (x : Int) (r : Int) (w : Int) = some (v : Int) := by
  have h := lay_loop (fun k l i => mandrelref02_moved.l0 k name (x : Int) (r : Int) (w : Int) l i) w hw g hs w 0 197 (by omega) (by omega) (by omega)
  have h' : mandrelref02_moved.f 197 name (x : Int) (r : Int) (w : Int) = mandrelref02_moved.l0 (197 - w) name (x : Int) (r : Int) (w : Int) ((List.range w).map g) (w : Int) := h
  rw [h', show 197 - w = (196 - w) + 1 by omega, mandrelref02_moved.l0, if_neg (by omega), made_f v w hw hw1 hv g hg _ (by omega), Option.bind_some]
theorem mv_shl (x r w : Nat) (hw : w ≤ 64) (hr : r < w) : mandrelref02_moved.f 197 (⟨#[115, 104, 108]⟩ : ByteArray) (x : Int) (r : Int) (w : Int) = some ((x * 2 ^ r % 2 ^ w : Nat) : Int) := by
  refine moved_end _ x r w (by omega) hw _ (Nat.mod_lt _ (Nat.pow_pos (by decide))) (fun i => if r ≤ i then x.testBit (i - r) else false) (fun i hi => (shl_bits w r x i hi).symm) ?_
  intro i k l hi hl
  rw [mandrelref02_moved.l0, if_pos (by omega), if_pos (by decide +kernel)]
  by_cases h : r ≤ i
  · have e1 : wrap64 (wrap64 ((i : Int) + (w : Int)) - (r : Int)) = ((i + w - r : Nat) : Int) := by
      rw [w64_in (x := (i : Int) + (w : Int)) (by omega) (by omega), w64_in (by omega) (by omega)]; omega
    have e2 : (i + w - r) % w = i - r := by rw [show i + w - r = i - r + w by omega, Nat.add_mod_right, Nat.mod_eq_of_lt (by omega)]
    rw [if_pos (by omega), if_neg (by omega), e1, nat_tmod, e2, ref_tbit x (i - r) (by omega), Option.bind_some, if_pos (by omega), w64_succ i (by omega), if_pos h]
  · rw [if_neg (by omega), if_pos (by omega), w64_succ i (by omega), if_neg h]
theorem mv_shru (x r w : Nat) (hw : w ≤ 64) (hr : r < w) (hx : x < 2 ^ w) : mandrelref02_moved.f 197 (⟨#[115, 104, 114, 95, 117]⟩ : ByteArray) (x : Int) (r : Int) (w : Int) = some ((x / 2 ^ r : Nat) : Int) := by
  refine moved_end _ x r w (by omega) hw _ (Nat.lt_of_le_of_lt (Nat.div_le_self _ _) hx) (fun i => if i + r < w then x.testBit ((i + r) % w) else false) ?_ ?_
  · intro i hi
    rw [Nat.testBit_div_two_pow]
    by_cases h : i + r < w
    · rw [if_pos h, Nat.mod_eq_of_lt h, Nat.add_comm]
    · rw [if_neg h, Nat.testBit_lt_two_pow (Nat.lt_of_lt_of_le hx (Nat.pow_le_pow_right (by decide) (by omega)))]
  intro i k l hi hl
  have e1 : wrap64 ((i : Int) + (r : Int)) = ((i + r : Nat) : Int) := by rw [w64_in (by omega) (by omega)]; omega
  rw [mandrelref02_moved.l0, if_pos (by omega), if_neg (by decide +kernel), if_pos (by decide +kernel), e1]
  by_cases h : i + r < w
  · have := Nat.mod_lt (i + r) (show 0 < w by omega)
    rw [if_pos (by omega), if_neg (by omega), nat_tmod, ref_tbit x _ (by omega), Option.bind_some, if_pos (by omega), w64_succ i (by omega), if_pos h]
  · rw [if_neg (by omega), if_pos (by omega), w64_succ i (by omega), if_neg h]
theorem mv_shrs (x r w : Nat) (hw : w ≤ 64) (hr : r < w) (hx : x < 2 ^ w) : mandrelref02_moved.f 197 (⟨#[115, 104, 114, 95, 115]⟩ : ByteArray) (x : Int) (r : Int) (w : Int) = some (sar w r x : Int) := by
  refine moved_end _ x r w (by omega) hw _ (sar_lt w r x (by omega) hx) (fun i => x.testBit (min (i + r) (w - 1))) (fun i hi => (sar_bits w r x i hr hi hx).symm) ?_
  intro i k l hi hl
  have e1 : wrap64 ((i : Int) + (r : Int)) = ((i + r : Nat) : Int) := by rw [w64_in (by omega) (by omega)]; omega
  have e2 : wrap64 ((w : Int) - 1) = ((w - 1 : Nat) : Int) := by rw [w64_in (by omega) (by omega)]; omega
  have e3 : mn ((i + r : Nat) : Int) ((w - 1 : Nat) : Int) = ((min (i + r) (w - 1) : Nat) : Int) := by
    unfold mn
    split
    · rw [Nat.min_eq_right (by omega)]
    · rw [Nat.min_eq_left (by omega)]
  rw [mandrelref02_moved.l0, if_pos (by omega), if_neg (by decide +kernel), if_neg (by decide +kernel), if_pos (by decide +kernel), e1, e2, e3, ref_tbit x _ (by omega), Option.bind_some, if_pos (by omega), w64_succ i (by omega)]
theorem mv_rotl (x r w : Nat) (hw : w ≤ 64) (hr : r < w) (hx : x < 2 ^ w) : mandrelref02_moved.f 197 (⟨#[114, 111, 116, 108]⟩ : ByteArray) (x : Int) (r : Int) (w : Int) = some (rot w r x : Int) := by
  refine moved_end _ x r w (by omega) hw _ (rot_lt w r x (by omega) hx) (fun i => x.testBit ((i + w - r) % w)) (fun i hi => (rot_bits w r x i hr hi hx).symm) ?_
  intro i k l hi hl
  have e1 : wrap64 (wrap64 ((i : Int) + (w : Int)) - (r : Int)) = ((i + w - r : Nat) : Int) := by
    rw [w64_in (x := (i : Int) + (w : Int)) (by omega) (by omega), w64_in (by omega) (by omega)]; omega
  have := Nat.mod_lt (i + w - r) (show 0 < w by omega)
  rw [mandrelref02_moved.l0, if_pos (by omega), if_neg (by decide +kernel), if_neg (by decide +kernel), if_neg (by decide +kernel), if_pos (by decide +kernel), if_neg (by omega), e1, nat_tmod, ref_tbit x _ (by omega), Option.bind_some, if_pos (by omega), w64_succ i (by omega)]
theorem mv_rotr (x r w : Nat) (hw : w ≤ 64) (hr : r < w) (hx : x < 2 ^ w) : mandrelref02_moved.f 197 (⟨#[114, 111, 116, 114]⟩ : ByteArray) (x : Int) (r : Int) (w : Int) = some (rot w ((w - r) % w) x : Int) := by
  have h9 := Nat.mod_lt (w - r) (show 0 < w by omega)
  refine moved_end _ x r w (by omega) hw _ (rot_lt w _ x (by omega) hx) (fun i => x.testBit ((i + r) % w)) (fun i hi => (rotr_bits w r x i hr hi hx).symm) ?_
  intro i k l hi hl
  have e1 : wrap64 ((i : Int) + (r : Int)) = ((i + r : Nat) : Int) := by rw [w64_in (by omega) (by omega)]; omega
  have := Nat.mod_lt (i + r) (show 0 < w by omega)
  rw [mandrelref02_moved.l0, if_pos (by omega), if_neg (by decide +kernel), if_neg (by decide +kernel), if_neg (by decide +kernel), if_neg (by decide +kernel), if_neg (by omega), e1, nat_tmod, ref_tbit x _ (by omega), Option.bind_some, if_pos (by omega), w64_succ i (by omega)]
/-- The same for and, or, xor. -/
theorem bit_end (name : ByteArray) (x y w : Nat) (hw1 : 1 ≤ w) (hw : w ≤ 64) (v : Nat) (hv : v < 2 ^ w) (g : Nat → Bool) (hg : ∀ i, i < w → g i = v.testBit i)
    (hs : ∀ (i k : Nat) (l : List Bool), i < w → l.length = i → mandrelref02_Two.l0 (k + 1) (x : Int) (y : Int) name (w : Int) l (i : Int) = mandrelref02_Two.l0 k (x : Int) (y : Int) name (w : Int) (l ++ [g i]) ((i + 1 : Nat) : Int)) :
    mandrelref02_Two.l0 198 (x : Int) (y : Int) name (w : Int) [] 0 = some ((v : Int), 0, true) := by
  have h := lay_loop (fun k l i => mandrelref02_Two.l0 k (x : Int) (y : Int) name (w : Int) l i) w hw g hs w 0 198 (by omega) (by omega) (by omega)
  have h' : mandrelref02_Two.l0 198 (x : Int) (y : Int) name (w : Int) [] 0 = mandrelref02_Two.l0 (198 - w) (x : Int) (y : Int) name (w : Int) ((List.range w).map g) (w : Int) := h
  rw [h', show 198 - w = (197 - w) + 1 by omega, mandrelref02_Two.l0, if_neg (by omega), made_f v w hw hw1 hv g hg _ (by omega), Option.bind_some]
theorem bw_and (x y w : Nat) (hw1 : 1 ≤ w) (hw : w ≤ 64) (hx : x < 2 ^ w) : mandrelref02_Two.l0 198 (x : Int) (y : Int) (⟨#[97, 110, 100]⟩ : ByteArray) (w : Int) [] 0 = some (((x &&& y : Nat) : Int), 0, true) := by
  refine bit_end _ x y w hw1 hw _ (Nat.lt_of_le_of_lt Nat.and_le_left hx) (fun i => x.testBit i && y.testBit i) (fun i _ => (Nat.testBit_and _ _ _).symm) ?_
  intro i k l hi hl
  have s1 : (⟨#[97, 110, 100]⟩ : ByteArray).toList = ([97, 110, 100] : List UInt8) := by decide +kernel
  have s2 : ¬ (⟨#[97, 110, 100]⟩ : ByteArray).toList = ([111, 114] : List UInt8) := by decide +kernel
  have s3 : ¬ (⟨#[97, 110, 100]⟩ : ByteArray).toList = ([120, 111, 114] : List UInt8) := by decide +kernel
  have hl2 : l.length < 140737488355328 := by omega
  rw [mandrelref02_Two.l0, if_pos (by omega), ref_tbit x i (by omega), Option.bind_some, ref_tbit y i (by omega), Option.bind_some, if_pos s1]
  generalize x.testBit i = p
  generalize y.testBit i = q
  simp only [if_neg s2, if_neg s3, if_pos hl2, w64_succ i (show i < 1000 by omega)]
  cases p <;> cases q <;> rfl
theorem bw_or (x y w : Nat) (hw1 : 1 ≤ w) (hw : w ≤ 64) (hx : x < 2 ^ w) (hy : y < 2 ^ w) : mandrelref02_Two.l0 198 (x : Int) (y : Int) (⟨#[111, 114]⟩ : ByteArray) (w : Int) [] 0 = some (((x ||| y : Nat) : Int), 0, true) := by
  refine bit_end _ x y w hw1 hw _ (Nat.or_lt_two_pow hx hy) (fun i => x.testBit i || y.testBit i) (fun i _ => (Nat.testBit_or _ _ _).symm) ?_
  intro i k l hi hl
  have s1 : ¬ (⟨#[111, 114]⟩ : ByteArray).toList = ([97, 110, 100] : List UInt8) := by decide +kernel
  have s2 : (⟨#[111, 114]⟩ : ByteArray).toList = ([111, 114] : List UInt8) := by decide +kernel
  have s3 : ¬ (⟨#[111, 114]⟩ : ByteArray).toList = ([120, 111, 114] : List UInt8) := by decide +kernel
  have hl2 : l.length < 140737488355328 := by omega
  rw [mandrelref02_Two.l0, if_pos (by omega), ref_tbit x i (by omega), Option.bind_some, ref_tbit y i (by omega), Option.bind_some, if_neg s1]
  generalize x.testBit i = p
  generalize y.testBit i = q
  simp only [if_pos s2, if_neg s3, if_pos hl2, w64_succ i (show i < 1000 by omega)]
  cases p <;> cases q <;> rfl
theorem bw_xor (x y w : Nat) (hw1 : 1 ≤ w) (hw : w ≤ 64) (hx : x < 2 ^ w) (hy : y < 2 ^ w) : mandrelref02_Two.l0 198 (x : Int) (y : Int) (⟨#[120, 111, 114]⟩ : ByteArray) (w : Int) [] 0 = some (((x ^^^ y : Nat) : Int), 0, true) := by
  refine bit_end _ x y w hw1 hw _ (Nat.xor_lt_two_pow hx hy) (fun i => x.testBit i != y.testBit i) (fun i _ => by rw [Nat.testBit_xor]) ?_
  intro i k l hi hl
  have s1 : ¬ (⟨#[120, 111, 114]⟩ : ByteArray).toList = ([97, 110, 100] : List UInt8) := by decide +kernel
  have s2 : ¬ (⟨#[120, 111, 114]⟩ : ByteArray).toList = ([111, 114] : List UInt8) := by decide +kernel
  have s3 : (⟨#[120, 111, 114]⟩ : ByteArray).toList = ([120, 111, 114] : List UInt8) := by decide +kernel
  have hl2 : l.length < 140737488355328 := by omega
  rw [mandrelref02_Two.l0, if_pos (by omega), ref_tbit x i (by omega), Option.bind_some, ref_tbit y i (by omega), Option.bind_some, if_neg s1]
  generalize x.testBit i = p
  generalize y.testBit i = q
  simp only [if_neg s2, if_pos s3, if_pos hl2, w64_succ i (show i < 1000 by omega)]
end Go.Proofs.YtkpafgnchdohaaaDoor.Pure
