/- NumTwos: the document's answer for two operands, and the program's, are the same. Printed in part by a program of this session. -/
import Derived.Test.YtkpafgnchdohaaaDoorXNx9
import Derived.Test.YtkpafgnchdohaaaDoorRefTwo
namespace Go.Proofs.YtkpafgnchdohaaaDoor.Pure
open Go Go.RowKit Go.Proofs.YtkpafgnchdohaaaDoor.Num Go.Proofs.YtkpafgnchdohaaaDoor.XN Go.Proofs.YtkpafgnchdohaaaDoorW.PrintWords Go.Proofs.YtkpafgnchdohaaaDoorW.PrintLast Go.Proofs.YtkpafgnchdohaaaDoorW.PrintMore

theorem h_eq (a b w : Int) : mandrelref02_holds.f (⟨#[101, 113]⟩ : ByteArray) a b w = (some ((a == b), true)) := by
  unfold mandrelref02_holds.f
  rw [if_pos (by decide +kernel)]
theorem h_ne (a b w : Int) : mandrelref02_holds.f (⟨#[110, 101]⟩ : ByteArray) a b w = (some ((a != b), true)) := by
  unfold mandrelref02_holds.f
  rw [if_neg (by decide +kernel), if_pos (by decide +kernel)]
theorem h_lt_s (a b w : Int) : mandrelref02_holds.f (⟨#[108, 116, 95, 115]⟩ : ByteArray) a b w = ((mandrelref02_less.f a b w).bind fun t => some (t, true)) := by
  unfold mandrelref02_holds.f
  rw [if_neg (by decide +kernel), if_neg (by decide +kernel), if_pos (by decide +kernel)]
theorem h_lt_u (a b w : Int) : mandrelref02_holds.f (⟨#[108, 116, 95, 117]⟩ : ByteArray) a b w = (some (decide (a < b), true)) := by
  unfold mandrelref02_holds.f
  rw [if_neg (by decide +kernel), if_neg (by decide +kernel), if_neg (by decide +kernel), if_pos (by decide +kernel)]
theorem h_gt_s (a b w : Int) : mandrelref02_holds.f (⟨#[103, 116, 95, 115]⟩ : ByteArray) a b w = ((mandrelref02_less.f b a w).bind fun t => some (t, true)) := by
  unfold mandrelref02_holds.f
  rw [if_neg (by decide +kernel), if_neg (by decide +kernel), if_neg (by decide +kernel), if_neg (by decide +kernel), if_pos (by decide +kernel)]
theorem h_gt_u (a b w : Int) : mandrelref02_holds.f (⟨#[103, 116, 95, 117]⟩ : ByteArray) a b w = (some (decide (a > b), true)) := by
  unfold mandrelref02_holds.f
  rw [if_neg (by decide +kernel), if_neg (by decide +kernel), if_neg (by decide +kernel), if_neg (by decide +kernel), if_neg (by decide +kernel), if_pos (by decide +kernel)]
theorem h_le_s (a b w : Int) : mandrelref02_holds.f (⟨#[108, 101, 95, 115]⟩ : ByteArray) a b w = ((mandrelref02_less.f b a w).bind fun t => some (!t, true)) := by
  unfold mandrelref02_holds.f
  rw [if_neg (by decide +kernel), if_neg (by decide +kernel), if_neg (by decide +kernel), if_neg (by decide +kernel), if_neg (by decide +kernel), if_neg (by decide +kernel), if_pos (by decide +kernel)]
theorem h_le_u (a b w : Int) : mandrelref02_holds.f (⟨#[108, 101, 95, 117]⟩ : ByteArray) a b w = (some (decide (a ≤ b), true)) := by
  unfold mandrelref02_holds.f
  rw [if_neg (by decide +kernel), if_neg (by decide +kernel), if_neg (by decide +kernel), if_neg (by decide +kernel), if_neg (by decide +kernel), if_neg (by decide +kernel), if_neg (by decide +kernel), if_pos (by decide +kernel)]
theorem h_ge_s (a b w : Int) : mandrelref02_holds.f (⟨#[103, 101, 95, 115]⟩ : ByteArray) a b w = ((mandrelref02_less.f a b w).bind fun t => some (!t, true)) := by
  unfold mandrelref02_holds.f
  rw [if_neg (by decide +kernel), if_neg (by decide +kernel), if_neg (by decide +kernel), if_neg (by decide +kernel), if_neg (by decide +kernel), if_neg (by decide +kernel), if_neg (by decide +kernel), if_neg (by decide +kernel), if_pos (by decide +kernel)]
theorem h_ge_u (a b w : Int) : mandrelref02_holds.f (⟨#[103, 101, 95, 117]⟩ : ByteArray) a b w = (some (decide (a ≥ b), true)) := by
  unfold mandrelref02_holds.f
  rw [if_neg (by decide +kernel), if_neg (by decide +kernel), if_neg (by decide +kernel), if_neg (by decide +kernel), if_neg (by decide +kernel), if_neg (by decide +kernel), if_neg (by decide +kernel), if_neg (by decide +kernel), if_neg (by decide +kernel), if_pos (by decide +kernel)]
theorem h_add (a b w : Int) : mandrelref02_holds.f (⟨#[97, 100, 100]⟩ : ByteArray) a b w = some (false, false) := by
  unfold mandrelref02_holds.f
  rw [if_neg (by decide +kernel), if_neg (by decide +kernel), if_neg (by decide +kernel), if_neg (by decide +kernel), if_neg (by decide +kernel), if_neg (by decide +kernel), if_neg (by decide +kernel), if_neg (by decide +kernel), if_neg (by decide +kernel), if_neg (by decide +kernel)]
theorem h_sub (a b w : Int) : mandrelref02_holds.f (⟨#[115, 117, 98]⟩ : ByteArray) a b w = some (false, false) := by
  unfold mandrelref02_holds.f
  rw [if_neg (by decide +kernel), if_neg (by decide +kernel), if_neg (by decide +kernel), if_neg (by decide +kernel), if_neg (by decide +kernel), if_neg (by decide +kernel), if_neg (by decide +kernel), if_neg (by decide +kernel), if_neg (by decide +kernel), if_neg (by decide +kernel)]
theorem h_mul (a b w : Int) : mandrelref02_holds.f (⟨#[109, 117, 108]⟩ : ByteArray) a b w = some (false, false) := by
  unfold mandrelref02_holds.f
  rw [if_neg (by decide +kernel), if_neg (by decide +kernel), if_neg (by decide +kernel), if_neg (by decide +kernel), if_neg (by decide +kernel), if_neg (by decide +kernel), if_neg (by decide +kernel), if_neg (by decide +kernel), if_neg (by decide +kernel), if_neg (by decide +kernel)]
theorem h_div_s (a b w : Int) : mandrelref02_holds.f (⟨#[100, 105, 118, 95, 115]⟩ : ByteArray) a b w = some (false, false) := by
  unfold mandrelref02_holds.f
  rw [if_neg (by decide +kernel), if_neg (by decide +kernel), if_neg (by decide +kernel), if_neg (by decide +kernel), if_neg (by decide +kernel), if_neg (by decide +kernel), if_neg (by decide +kernel), if_neg (by decide +kernel), if_neg (by decide +kernel), if_neg (by decide +kernel)]
theorem h_div_u (a b w : Int) : mandrelref02_holds.f (⟨#[100, 105, 118, 95, 117]⟩ : ByteArray) a b w = some (false, false) := by
  unfold mandrelref02_holds.f
  rw [if_neg (by decide +kernel), if_neg (by decide +kernel), if_neg (by decide +kernel), if_neg (by decide +kernel), if_neg (by decide +kernel), if_neg (by decide +kernel), if_neg (by decide +kernel), if_neg (by decide +kernel), if_neg (by decide +kernel), if_neg (by decide +kernel)]
theorem h_rem_s (a b w : Int) : mandrelref02_holds.f (⟨#[114, 101, 109, 95, 115]⟩ : ByteArray) a b w = some (false, false) := by
  unfold mandrelref02_holds.f
  rw [if_neg (by decide +kernel), if_neg (by decide +kernel), if_neg (by decide +kernel), if_neg (by decide +kernel), if_neg (by decide +kernel), if_neg (by decide +kernel), if_neg (by decide +kernel), if_neg (by decide +kernel), if_neg (by decide +kernel), if_neg (by decide +kernel)]
theorem h_rem_u (a b w : Int) : mandrelref02_holds.f (⟨#[114, 101, 109, 95, 117]⟩ : ByteArray) a b w = some (false, false) := by
  unfold mandrelref02_holds.f
  rw [if_neg (by decide +kernel), if_neg (by decide +kernel), if_neg (by decide +kernel), if_neg (by decide +kernel), if_neg (by decide +kernel), if_neg (by decide +kernel), if_neg (by decide +kernel), if_neg (by decide +kernel), if_neg (by decide +kernel), if_neg (by decide +kernel)]
theorem h_and (a b w : Int) : mandrelref02_holds.f (⟨#[97, 110, 100]⟩ : ByteArray) a b w = some (false, false) := by
  unfold mandrelref02_holds.f
  rw [if_neg (by decide +kernel), if_neg (by decide +kernel), if_neg (by decide +kernel), if_neg (by decide +kernel), if_neg (by decide +kernel), if_neg (by decide +kernel), if_neg (by decide +kernel), if_neg (by decide +kernel), if_neg (by decide +kernel), if_neg (by decide +kernel)]
theorem h_or (a b w : Int) : mandrelref02_holds.f (⟨#[111, 114]⟩ : ByteArray) a b w = some (false, false) := by
  unfold mandrelref02_holds.f
  rw [if_neg (by decide +kernel), if_neg (by decide +kernel), if_neg (by decide +kernel), if_neg (by decide +kernel), if_neg (by decide +kernel), if_neg (by decide +kernel), if_neg (by decide +kernel), if_neg (by decide +kernel), if_neg (by decide +kernel), if_neg (by decide +kernel)]
theorem h_xor (a b w : Int) : mandrelref02_holds.f (⟨#[120, 111, 114]⟩ : ByteArray) a b w = some (false, false) := by
  unfold mandrelref02_holds.f
  rw [if_neg (by decide +kernel), if_neg (by decide +kernel), if_neg (by decide +kernel), if_neg (by decide +kernel), if_neg (by decide +kernel), if_neg (by decide +kernel), if_neg (by decide +kernel), if_neg (by decide +kernel), if_neg (by decide +kernel), if_neg (by decide +kernel)]
theorem h_shl (a b w : Int) : mandrelref02_holds.f (⟨#[115, 104, 108]⟩ : ByteArray) a b w = some (false, false) := by
  unfold mandrelref02_holds.f
  rw [if_neg (by decide +kernel), if_neg (by decide +kernel), if_neg (by decide +kernel), if_neg (by decide +kernel), if_neg (by decide +kernel), if_neg (by decide +kernel), if_neg (by decide +kernel), if_neg (by decide +kernel), if_neg (by decide +kernel), if_neg (by decide +kernel)]
theorem h_shr_s (a b w : Int) : mandrelref02_holds.f (⟨#[115, 104, 114, 95, 115]⟩ : ByteArray) a b w = some (false, false) := by
  unfold mandrelref02_holds.f
  rw [if_neg (by decide +kernel), if_neg (by decide +kernel), if_neg (by decide +kernel), if_neg (by decide +kernel), if_neg (by decide +kernel), if_neg (by decide +kernel), if_neg (by decide +kernel), if_neg (by decide +kernel), if_neg (by decide +kernel), if_neg (by decide +kernel)]
theorem h_shr_u (a b w : Int) : mandrelref02_holds.f (⟨#[115, 104, 114, 95, 117]⟩ : ByteArray) a b w = some (false, false) := by
  unfold mandrelref02_holds.f
  rw [if_neg (by decide +kernel), if_neg (by decide +kernel), if_neg (by decide +kernel), if_neg (by decide +kernel), if_neg (by decide +kernel), if_neg (by decide +kernel), if_neg (by decide +kernel), if_neg (by decide +kernel), if_neg (by decide +kernel), if_neg (by decide +kernel)]
theorem h_rotl (a b w : Int) : mandrelref02_holds.f (⟨#[114, 111, 116, 108]⟩ : ByteArray) a b w = some (false, false) := by
  unfold mandrelref02_holds.f
  rw [if_neg (by decide +kernel), if_neg (by decide +kernel), if_neg (by decide +kernel), if_neg (by decide +kernel), if_neg (by decide +kernel), if_neg (by decide +kernel), if_neg (by decide +kernel), if_neg (by decide +kernel), if_neg (by decide +kernel), if_neg (by decide +kernel)]
theorem h_rotr (a b w : Int) : mandrelref02_holds.f (⟨#[114, 111, 116, 114]⟩ : ByteArray) a b w = some (false, false) := by
  unfold mandrelref02_holds.f
  rw [if_neg (by decide +kernel), if_neg (by decide +kernel), if_neg (by decide +kernel), if_neg (by decide +kernel), if_neg (by decide +kernel), if_neg (by decide +kernel), if_neg (by decide +kernel), if_neg (by decide +kernel), if_neg (by decide +kernel), if_neg (by decide +kernel)]
theorem two_ref (op x y w : Int) (name : ByteArray) (hN : mandrelref02_Name.f 200 op = some (name, w)) (hE : ¬ name.toList = ([] : List UInt8)) (hA : mandrelref02_Alone.f name = some false) : mandrelref02_Two.f 200 op x y = mandrelref02_Two.j0 200 x y name w false := by
  unfold mandrelref02_Two.f
  rw [hN, Option.bind_some, if_neg hE, hA, Option.bind_some]
/-- A comparison's answer. -/
theorem two_cmp (x y w a b : Int) (name : ByteArray) (r : Bool) (hx : mandrelref02_low.f x w = some a) (hy : mandrelref02_low.f y w = some b) (hh : mandrelref02_holds.f name a b w = some (r, true)) : mandrelref02_Two.j0 200 x y name w false = some (if r = true then 1 else 0, 0, true) := by
  rw [mandrelref02_Two.j0, if_neg (by simp), hx, Option.bind_some, hy, Option.bind_some, hh, Option.bind_some, if_pos rfl]
  cases r <;> rfl
theorem two_num (x y w a b : Int) (name : ByteArray) (hx : mandrelref02_low.f x w = some a) (hy : mandrelref02_low.f y w = some b) (hh : mandrelref02_holds.f name a b w = some (false, false)) : mandrelref02_Two.j0 200 x y name w false =
    (if name.toList = ([97, 100, 100] : List UInt8) then ((mandrelref02_low.f (IntKind.u64.wrap (a + b)) w).bind fun t299 => (some (t299, 0, true))) else (if name.toList = ([115, 117, 98] : List UInt8) then ((mandrelref02_low.f (IntKind.u64.wrap (a - b)) w).bind fun t300 => (some (t300, 0, true))) else (if name.toList = ([109, 117, 108] : List UInt8) then ((mandrelref02_low.f (IntKind.u64.wrap (a * b)) w).bind fun t301 => (some (t301, 0, true))) else (if name.toList = ([97, 110, 100] : List UInt8) then (mandrelref02_Two.j1 199 a b name w name (name.toList == ([97, 110, 100] : List UInt8))) else (if name.toList = ([111, 114] : List UInt8) then (mandrelref02_Two.j1 199 a b name w name (name.toList == ([111, 114] : List UInt8))) else (mandrelref02_Two.j1 199 a b name w name (name.toList == ([120, 111, 114] : List UInt8)))))))) := by
  rw [mandrelref02_Two.j0, if_neg (by simp), hx, Option.bind_some, hy, Option.bind_some, hh, Option.bind_some, if_neg (by simp)]
theorem n_add (x y w a b : Int) (hx : mandrelref02_low.f x w = some a) (hy : mandrelref02_low.f y w = some b) : mandrelref02_Two.j0 200 x y (⟨#[97, 100, 100]⟩ : ByteArray) w false = ((mandrelref02_low.f (IntKind.u64.wrap (a + b)) w).bind fun t => (some (t, 0, true))) := by
  rw [two_num x y w a b _ hx hy (h_add a b w), if_pos (by decide +kernel)]
theorem n_sub (x y w a b : Int) (hx : mandrelref02_low.f x w = some a) (hy : mandrelref02_low.f y w = some b) : mandrelref02_Two.j0 200 x y (⟨#[115, 117, 98]⟩ : ByteArray) w false = ((mandrelref02_low.f (IntKind.u64.wrap (a - b)) w).bind fun t => (some (t, 0, true))) := by
  rw [two_num x y w a b _ hx hy (h_sub a b w), if_neg (by decide +kernel), if_pos (by decide +kernel)]
theorem n_mul (x y w a b : Int) (hx : mandrelref02_low.f x w = some a) (hy : mandrelref02_low.f y w = some b) : mandrelref02_Two.j0 200 x y (⟨#[109, 117, 108]⟩ : ByteArray) w false = ((mandrelref02_low.f (IntKind.u64.wrap (a * b)) w).bind fun t => (some (t, 0, true))) := by
  rw [two_num x y w a b _ hx hy (h_mul a b w), if_neg (by decide +kernel), if_neg (by decide +kernel), if_pos (by decide +kernel)]
theorem n_and (x y w a b : Int) (hx : mandrelref02_low.f x w = some a) (hy : mandrelref02_low.f y w = some b) : mandrelref02_Two.j0 200 x y (⟨#[97, 110, 100]⟩ : ByteArray) w false = mandrelref02_Two.l0 198 a b (⟨#[97, 110, 100]⟩ : ByteArray) w ([] : List Bool) 0 := by
  rw [two_num x y w a b _ hx hy (h_and a b w), if_neg (by decide +kernel), if_neg (by decide +kernel), if_neg (by decide +kernel), if_pos (by decide +kernel), mandrelref02_Two.j1, if_pos (by decide +kernel)]
theorem n_or (x y w a b : Int) (hx : mandrelref02_low.f x w = some a) (hy : mandrelref02_low.f y w = some b) : mandrelref02_Two.j0 200 x y (⟨#[111, 114]⟩ : ByteArray) w false = mandrelref02_Two.l0 198 a b (⟨#[111, 114]⟩ : ByteArray) w ([] : List Bool) 0 := by
  rw [two_num x y w a b _ hx hy (h_or a b w), if_neg (by decide +kernel), if_neg (by decide +kernel), if_neg (by decide +kernel), if_neg (by decide +kernel), if_pos (by decide +kernel), mandrelref02_Two.j1, if_pos (by decide +kernel)]
theorem n_xor (x y w a b : Int) (hx : mandrelref02_low.f x w = some a) (hy : mandrelref02_low.f y w = some b) : mandrelref02_Two.j0 200 x y (⟨#[120, 111, 114]⟩ : ByteArray) w false = mandrelref02_Two.l0 198 a b (⟨#[120, 111, 114]⟩ : ByteArray) w ([] : List Bool) 0 := by
  rw [two_num x y w a b _ hx hy (h_xor a b w), if_neg (by decide +kernel), if_neg (by decide +kernel), if_neg (by decide +kernel), if_neg (by decide +kernel), if_neg (by decide +kernel), mandrelref02_Two.j1, if_pos (by decide +kernel)]
theorem n_div_s (x y w a b : Int) (hx : mandrelref02_low.f x w = some a) (hy : mandrelref02_low.f y w = some b) : mandrelref02_Two.j0 200 x y (⟨#[100, 105, 118, 95, 115]⟩ : ByteArray) w false = ((mandrelref02_divided.f (⟨#[100, 105, 118, 95, 115]⟩ : ByteArray) a b w).bind fun bt => (some (bt.1, bt.2, true))) := by
  rw [two_num x y w a b _ hx hy (h_div_s a b w), if_neg (by decide +kernel), if_neg (by decide +kernel), if_neg (by decide +kernel), if_neg (by decide +kernel), if_neg (by decide +kernel), mandrelref02_Two.j1, if_neg (by decide +kernel), if_pos (by decide +kernel), mandrelref02_Two.j3, if_pos (by decide +kernel)]
theorem n_div_u (x y w a b : Int) (hx : mandrelref02_low.f x w = some a) (hy : mandrelref02_low.f y w = some b) : mandrelref02_Two.j0 200 x y (⟨#[100, 105, 118, 95, 117]⟩ : ByteArray) w false = ((mandrelref02_divided.f (⟨#[100, 105, 118, 95, 117]⟩ : ByteArray) a b w).bind fun bt => (some (bt.1, bt.2, true))) := by
  rw [two_num x y w a b _ hx hy (h_div_u a b w), if_neg (by decide +kernel), if_neg (by decide +kernel), if_neg (by decide +kernel), if_neg (by decide +kernel), if_neg (by decide +kernel), mandrelref02_Two.j1, if_neg (by decide +kernel), if_neg (by decide +kernel), if_pos (by decide +kernel), mandrelref02_Two.j3, if_pos (by decide +kernel)]
theorem n_rem_s (x y w a b : Int) (hx : mandrelref02_low.f x w = some a) (hy : mandrelref02_low.f y w = some b) : mandrelref02_Two.j0 200 x y (⟨#[114, 101, 109, 95, 115]⟩ : ByteArray) w false = ((mandrelref02_divided.f (⟨#[114, 101, 109, 95, 115]⟩ : ByteArray) a b w).bind fun bt => (some (bt.1, bt.2, true))) := by
  rw [two_num x y w a b _ hx hy (h_rem_s a b w), if_neg (by decide +kernel), if_neg (by decide +kernel), if_neg (by decide +kernel), if_neg (by decide +kernel), if_neg (by decide +kernel), mandrelref02_Two.j1, if_neg (by decide +kernel), if_neg (by decide +kernel), if_neg (by decide +kernel), if_pos (by decide +kernel), mandrelref02_Two.j3, if_pos (by decide +kernel)]
theorem n_rem_u (x y w a b : Int) (hx : mandrelref02_low.f x w = some a) (hy : mandrelref02_low.f y w = some b) : mandrelref02_Two.j0 200 x y (⟨#[114, 101, 109, 95, 117]⟩ : ByteArray) w false = ((mandrelref02_divided.f (⟨#[114, 101, 109, 95, 117]⟩ : ByteArray) a b w).bind fun bt => (some (bt.1, bt.2, true))) := by
  rw [two_num x y w a b _ hx hy (h_rem_u a b w), if_neg (by decide +kernel), if_neg (by decide +kernel), if_neg (by decide +kernel), if_neg (by decide +kernel), if_neg (by decide +kernel), mandrelref02_Two.j1, if_neg (by decide +kernel), if_neg (by decide +kernel), if_neg (by decide +kernel), if_neg (by decide +kernel), mandrelref02_Two.j3, if_pos (by decide +kernel)]
theorem n_shl (x y w a b : Int) (hx : mandrelref02_low.f x w = some a) (hy : mandrelref02_low.f y w = some b) (hw : ¬ IntKind.u64.wrap w = 0) : mandrelref02_Two.j0 200 x y (⟨#[115, 104, 108]⟩ : ByteArray) w false = ((mandrelref02_moved.f 197 (⟨#[115, 104, 108]⟩ : ByteArray) a (wrap64 (Int.tmod b (IntKind.u64.wrap w))) w).bind fun t => (some (t, 0, true))) := by
  rw [two_num x y w a b _ hx hy (h_shl a b w), if_neg (by decide +kernel), if_neg (by decide +kernel), if_neg (by decide +kernel), if_neg (by decide +kernel), if_neg (by decide +kernel), mandrelref02_Two.j1, if_neg (by decide +kernel), if_neg (by decide +kernel), if_neg (by decide +kernel), if_neg (by decide +kernel), mandrelref02_Two.j3, if_neg (by decide +kernel), if_neg hw]
theorem n_shr_s (x y w a b : Int) (hx : mandrelref02_low.f x w = some a) (hy : mandrelref02_low.f y w = some b) (hw : ¬ IntKind.u64.wrap w = 0) : mandrelref02_Two.j0 200 x y (⟨#[115, 104, 114, 95, 115]⟩ : ByteArray) w false = ((mandrelref02_moved.f 197 (⟨#[115, 104, 114, 95, 115]⟩ : ByteArray) a (wrap64 (Int.tmod b (IntKind.u64.wrap w))) w).bind fun t => (some (t, 0, true))) := by
  rw [two_num x y w a b _ hx hy (h_shr_s a b w), if_neg (by decide +kernel), if_neg (by decide +kernel), if_neg (by decide +kernel), if_neg (by decide +kernel), if_neg (by decide +kernel), mandrelref02_Two.j1, if_neg (by decide +kernel), if_neg (by decide +kernel), if_neg (by decide +kernel), if_neg (by decide +kernel), mandrelref02_Two.j3, if_neg (by decide +kernel), if_neg hw]
theorem n_shr_u (x y w a b : Int) (hx : mandrelref02_low.f x w = some a) (hy : mandrelref02_low.f y w = some b) (hw : ¬ IntKind.u64.wrap w = 0) : mandrelref02_Two.j0 200 x y (⟨#[115, 104, 114, 95, 117]⟩ : ByteArray) w false = ((mandrelref02_moved.f 197 (⟨#[115, 104, 114, 95, 117]⟩ : ByteArray) a (wrap64 (Int.tmod b (IntKind.u64.wrap w))) w).bind fun t => (some (t, 0, true))) := by
  rw [two_num x y w a b _ hx hy (h_shr_u a b w), if_neg (by decide +kernel), if_neg (by decide +kernel), if_neg (by decide +kernel), if_neg (by decide +kernel), if_neg (by decide +kernel), mandrelref02_Two.j1, if_neg (by decide +kernel), if_neg (by decide +kernel), if_neg (by decide +kernel), if_neg (by decide +kernel), mandrelref02_Two.j3, if_neg (by decide +kernel), if_neg hw]
theorem n_rotl (x y w a b : Int) (hx : mandrelref02_low.f x w = some a) (hy : mandrelref02_low.f y w = some b) (hw : ¬ IntKind.u64.wrap w = 0) : mandrelref02_Two.j0 200 x y (⟨#[114, 111, 116, 108]⟩ : ByteArray) w false = ((mandrelref02_moved.f 197 (⟨#[114, 111, 116, 108]⟩ : ByteArray) a (wrap64 (Int.tmod b (IntKind.u64.wrap w))) w).bind fun t => (some (t, 0, true))) := by
  rw [two_num x y w a b _ hx hy (h_rotl a b w), if_neg (by decide +kernel), if_neg (by decide +kernel), if_neg (by decide +kernel), if_neg (by decide +kernel), if_neg (by decide +kernel), mandrelref02_Two.j1, if_neg (by decide +kernel), if_neg (by decide +kernel), if_neg (by decide +kernel), if_neg (by decide +kernel), mandrelref02_Two.j3, if_neg (by decide +kernel), if_neg hw]
theorem n_rotr (x y w a b : Int) (hx : mandrelref02_low.f x w = some a) (hy : mandrelref02_low.f y w = some b) (hw : ¬ IntKind.u64.wrap w = 0) : mandrelref02_Two.j0 200 x y (⟨#[114, 111, 116, 114]⟩ : ByteArray) w false = ((mandrelref02_moved.f 197 (⟨#[114, 111, 116, 114]⟩ : ByteArray) a (wrap64 (Int.tmod b (IntKind.u64.wrap w))) w).bind fun t => (some (t, 0, true))) := by
  rw [two_num x y w a b _ hx hy (h_rotr a b w), if_neg (by decide +kernel), if_neg (by decide +kernel), if_neg (by decide +kernel), if_neg (by decide +kernel), if_neg (by decide +kernel), mandrelref02_Two.j1, if_neg (by decide +kernel), if_neg (by decide +kernel), if_neg (by decide +kernel), if_neg (by decide +kernel), mandrelref02_Two.j3, if_neg (by decide +kernel), if_neg hw]
theorem r_70 (x y : Int) : mandrelref02_Two.f 200 70 x y = mandrelref02_Two.j0 200 x y (⟨#[101, 113]⟩ : ByteArray) 32 false := two_ref 70 x y 32 _ (by kernel_rfl) (by decide +kernel) (by kernel_rfl)
theorem r_81 (x y : Int) : mandrelref02_Two.f 200 81 x y = mandrelref02_Two.j0 200 x y (⟨#[101, 113]⟩ : ByteArray) 64 false := two_ref 81 x y 64 _ (by kernel_rfl) (by decide +kernel) (by kernel_rfl)
theorem r_71 (x y : Int) : mandrelref02_Two.f 200 71 x y = mandrelref02_Two.j0 200 x y (⟨#[110, 101]⟩ : ByteArray) 32 false := two_ref 71 x y 32 _ (by kernel_rfl) (by decide +kernel) (by kernel_rfl)
theorem r_82 (x y : Int) : mandrelref02_Two.f 200 82 x y = mandrelref02_Two.j0 200 x y (⟨#[110, 101]⟩ : ByteArray) 64 false := two_ref 82 x y 64 _ (by kernel_rfl) (by decide +kernel) (by kernel_rfl)
theorem r_72 (x y : Int) : mandrelref02_Two.f 200 72 x y = mandrelref02_Two.j0 200 x y (⟨#[108, 116, 95, 115]⟩ : ByteArray) 32 false := two_ref 72 x y 32 _ (by kernel_rfl) (by decide +kernel) (by kernel_rfl)
theorem r_83 (x y : Int) : mandrelref02_Two.f 200 83 x y = mandrelref02_Two.j0 200 x y (⟨#[108, 116, 95, 115]⟩ : ByteArray) 64 false := two_ref 83 x y 64 _ (by kernel_rfl) (by decide +kernel) (by kernel_rfl)
theorem r_73 (x y : Int) : mandrelref02_Two.f 200 73 x y = mandrelref02_Two.j0 200 x y (⟨#[108, 116, 95, 117]⟩ : ByteArray) 32 false := two_ref 73 x y 32 _ (by kernel_rfl) (by decide +kernel) (by kernel_rfl)
theorem r_84 (x y : Int) : mandrelref02_Two.f 200 84 x y = mandrelref02_Two.j0 200 x y (⟨#[108, 116, 95, 117]⟩ : ByteArray) 64 false := two_ref 84 x y 64 _ (by kernel_rfl) (by decide +kernel) (by kernel_rfl)
theorem r_74 (x y : Int) : mandrelref02_Two.f 200 74 x y = mandrelref02_Two.j0 200 x y (⟨#[103, 116, 95, 115]⟩ : ByteArray) 32 false := two_ref 74 x y 32 _ (by kernel_rfl) (by decide +kernel) (by kernel_rfl)
theorem r_85 (x y : Int) : mandrelref02_Two.f 200 85 x y = mandrelref02_Two.j0 200 x y (⟨#[103, 116, 95, 115]⟩ : ByteArray) 64 false := two_ref 85 x y 64 _ (by kernel_rfl) (by decide +kernel) (by kernel_rfl)
theorem r_75 (x y : Int) : mandrelref02_Two.f 200 75 x y = mandrelref02_Two.j0 200 x y (⟨#[103, 116, 95, 117]⟩ : ByteArray) 32 false := two_ref 75 x y 32 _ (by kernel_rfl) (by decide +kernel) (by kernel_rfl)
theorem r_86 (x y : Int) : mandrelref02_Two.f 200 86 x y = mandrelref02_Two.j0 200 x y (⟨#[103, 116, 95, 117]⟩ : ByteArray) 64 false := two_ref 86 x y 64 _ (by kernel_rfl) (by decide +kernel) (by kernel_rfl)
theorem r_76 (x y : Int) : mandrelref02_Two.f 200 76 x y = mandrelref02_Two.j0 200 x y (⟨#[108, 101, 95, 115]⟩ : ByteArray) 32 false := two_ref 76 x y 32 _ (by kernel_rfl) (by decide +kernel) (by kernel_rfl)
theorem r_87 (x y : Int) : mandrelref02_Two.f 200 87 x y = mandrelref02_Two.j0 200 x y (⟨#[108, 101, 95, 115]⟩ : ByteArray) 64 false := two_ref 87 x y 64 _ (by kernel_rfl) (by decide +kernel) (by kernel_rfl)
theorem r_77 (x y : Int) : mandrelref02_Two.f 200 77 x y = mandrelref02_Two.j0 200 x y (⟨#[108, 101, 95, 117]⟩ : ByteArray) 32 false := two_ref 77 x y 32 _ (by kernel_rfl) (by decide +kernel) (by kernel_rfl)
theorem r_88 (x y : Int) : mandrelref02_Two.f 200 88 x y = mandrelref02_Two.j0 200 x y (⟨#[108, 101, 95, 117]⟩ : ByteArray) 64 false := two_ref 88 x y 64 _ (by kernel_rfl) (by decide +kernel) (by kernel_rfl)
theorem r_78 (x y : Int) : mandrelref02_Two.f 200 78 x y = mandrelref02_Two.j0 200 x y (⟨#[103, 101, 95, 115]⟩ : ByteArray) 32 false := two_ref 78 x y 32 _ (by kernel_rfl) (by decide +kernel) (by kernel_rfl)
theorem r_89 (x y : Int) : mandrelref02_Two.f 200 89 x y = mandrelref02_Two.j0 200 x y (⟨#[103, 101, 95, 115]⟩ : ByteArray) 64 false := two_ref 89 x y 64 _ (by kernel_rfl) (by decide +kernel) (by kernel_rfl)
theorem r_79 (x y : Int) : mandrelref02_Two.f 200 79 x y = mandrelref02_Two.j0 200 x y (⟨#[103, 101, 95, 117]⟩ : ByteArray) 32 false := two_ref 79 x y 32 _ (by kernel_rfl) (by decide +kernel) (by kernel_rfl)
theorem r_90 (x y : Int) : mandrelref02_Two.f 200 90 x y = mandrelref02_Two.j0 200 x y (⟨#[103, 101, 95, 117]⟩ : ByteArray) 64 false := two_ref 90 x y 64 _ (by kernel_rfl) (by decide +kernel) (by kernel_rfl)
theorem r_106 (x y : Int) : mandrelref02_Two.f 200 106 x y = mandrelref02_Two.j0 200 x y (⟨#[97, 100, 100]⟩ : ByteArray) 32 false := two_ref 106 x y 32 _ (by kernel_rfl) (by decide +kernel) (by kernel_rfl)
theorem r_124 (x y : Int) : mandrelref02_Two.f 200 124 x y = mandrelref02_Two.j0 200 x y (⟨#[97, 100, 100]⟩ : ByteArray) 64 false := two_ref 124 x y 64 _ (by kernel_rfl) (by decide +kernel) (by kernel_rfl)
theorem r_107 (x y : Int) : mandrelref02_Two.f 200 107 x y = mandrelref02_Two.j0 200 x y (⟨#[115, 117, 98]⟩ : ByteArray) 32 false := two_ref 107 x y 32 _ (by kernel_rfl) (by decide +kernel) (by kernel_rfl)
theorem r_125 (x y : Int) : mandrelref02_Two.f 200 125 x y = mandrelref02_Two.j0 200 x y (⟨#[115, 117, 98]⟩ : ByteArray) 64 false := two_ref 125 x y 64 _ (by kernel_rfl) (by decide +kernel) (by kernel_rfl)
theorem r_108 (x y : Int) : mandrelref02_Two.f 200 108 x y = mandrelref02_Two.j0 200 x y (⟨#[109, 117, 108]⟩ : ByteArray) 32 false := two_ref 108 x y 32 _ (by kernel_rfl) (by decide +kernel) (by kernel_rfl)
theorem r_126 (x y : Int) : mandrelref02_Two.f 200 126 x y = mandrelref02_Two.j0 200 x y (⟨#[109, 117, 108]⟩ : ByteArray) 64 false := two_ref 126 x y 64 _ (by kernel_rfl) (by decide +kernel) (by kernel_rfl)
theorem r_109 (x y : Int) : mandrelref02_Two.f 200 109 x y = mandrelref02_Two.j0 200 x y (⟨#[100, 105, 118, 95, 115]⟩ : ByteArray) 32 false := two_ref 109 x y 32 _ (by kernel_rfl) (by decide +kernel) (by kernel_rfl)
theorem r_127 (x y : Int) : mandrelref02_Two.f 200 127 x y = mandrelref02_Two.j0 200 x y (⟨#[100, 105, 118, 95, 115]⟩ : ByteArray) 64 false := two_ref 127 x y 64 _ (by kernel_rfl) (by decide +kernel) (by kernel_rfl)
theorem r_110 (x y : Int) : mandrelref02_Two.f 200 110 x y = mandrelref02_Two.j0 200 x y (⟨#[100, 105, 118, 95, 117]⟩ : ByteArray) 32 false := two_ref 110 x y 32 _ (by kernel_rfl) (by decide +kernel) (by kernel_rfl)
theorem r_128 (x y : Int) : mandrelref02_Two.f 200 128 x y = mandrelref02_Two.j0 200 x y (⟨#[100, 105, 118, 95, 117]⟩ : ByteArray) 64 false := two_ref 128 x y 64 _ (by kernel_rfl) (by decide +kernel) (by kernel_rfl)
theorem r_111 (x y : Int) : mandrelref02_Two.f 200 111 x y = mandrelref02_Two.j0 200 x y (⟨#[114, 101, 109, 95, 115]⟩ : ByteArray) 32 false := two_ref 111 x y 32 _ (by kernel_rfl) (by decide +kernel) (by kernel_rfl)
theorem r_129 (x y : Int) : mandrelref02_Two.f 200 129 x y = mandrelref02_Two.j0 200 x y (⟨#[114, 101, 109, 95, 115]⟩ : ByteArray) 64 false := two_ref 129 x y 64 _ (by kernel_rfl) (by decide +kernel) (by kernel_rfl)
theorem r_112 (x y : Int) : mandrelref02_Two.f 200 112 x y = mandrelref02_Two.j0 200 x y (⟨#[114, 101, 109, 95, 117]⟩ : ByteArray) 32 false := two_ref 112 x y 32 _ (by kernel_rfl) (by decide +kernel) (by kernel_rfl)
theorem r_130 (x y : Int) : mandrelref02_Two.f 200 130 x y = mandrelref02_Two.j0 200 x y (⟨#[114, 101, 109, 95, 117]⟩ : ByteArray) 64 false := two_ref 130 x y 64 _ (by kernel_rfl) (by decide +kernel) (by kernel_rfl)
theorem r_113 (x y : Int) : mandrelref02_Two.f 200 113 x y = mandrelref02_Two.j0 200 x y (⟨#[97, 110, 100]⟩ : ByteArray) 32 false := two_ref 113 x y 32 _ (by kernel_rfl) (by decide +kernel) (by kernel_rfl)
theorem r_131 (x y : Int) : mandrelref02_Two.f 200 131 x y = mandrelref02_Two.j0 200 x y (⟨#[97, 110, 100]⟩ : ByteArray) 64 false := two_ref 131 x y 64 _ (by kernel_rfl) (by decide +kernel) (by kernel_rfl)
theorem r_114 (x y : Int) : mandrelref02_Two.f 200 114 x y = mandrelref02_Two.j0 200 x y (⟨#[111, 114]⟩ : ByteArray) 32 false := two_ref 114 x y 32 _ (by kernel_rfl) (by decide +kernel) (by kernel_rfl)
theorem r_132 (x y : Int) : mandrelref02_Two.f 200 132 x y = mandrelref02_Two.j0 200 x y (⟨#[111, 114]⟩ : ByteArray) 64 false := two_ref 132 x y 64 _ (by kernel_rfl) (by decide +kernel) (by kernel_rfl)
theorem r_115 (x y : Int) : mandrelref02_Two.f 200 115 x y = mandrelref02_Two.j0 200 x y (⟨#[120, 111, 114]⟩ : ByteArray) 32 false := two_ref 115 x y 32 _ (by kernel_rfl) (by decide +kernel) (by kernel_rfl)
theorem r_133 (x y : Int) : mandrelref02_Two.f 200 133 x y = mandrelref02_Two.j0 200 x y (⟨#[120, 111, 114]⟩ : ByteArray) 64 false := two_ref 133 x y 64 _ (by kernel_rfl) (by decide +kernel) (by kernel_rfl)
theorem r_116 (x y : Int) : mandrelref02_Two.f 200 116 x y = mandrelref02_Two.j0 200 x y (⟨#[115, 104, 108]⟩ : ByteArray) 32 false := two_ref 116 x y 32 _ (by kernel_rfl) (by decide +kernel) (by kernel_rfl)
theorem r_134 (x y : Int) : mandrelref02_Two.f 200 134 x y = mandrelref02_Two.j0 200 x y (⟨#[115, 104, 108]⟩ : ByteArray) 64 false := two_ref 134 x y 64 _ (by kernel_rfl) (by decide +kernel) (by kernel_rfl)
theorem r_117 (x y : Int) : mandrelref02_Two.f 200 117 x y = mandrelref02_Two.j0 200 x y (⟨#[115, 104, 114, 95, 115]⟩ : ByteArray) 32 false := two_ref 117 x y 32 _ (by kernel_rfl) (by decide +kernel) (by kernel_rfl)
theorem r_135 (x y : Int) : mandrelref02_Two.f 200 135 x y = mandrelref02_Two.j0 200 x y (⟨#[115, 104, 114, 95, 115]⟩ : ByteArray) 64 false := two_ref 135 x y 64 _ (by kernel_rfl) (by decide +kernel) (by kernel_rfl)
theorem r_118 (x y : Int) : mandrelref02_Two.f 200 118 x y = mandrelref02_Two.j0 200 x y (⟨#[115, 104, 114, 95, 117]⟩ : ByteArray) 32 false := two_ref 118 x y 32 _ (by kernel_rfl) (by decide +kernel) (by kernel_rfl)
theorem r_136 (x y : Int) : mandrelref02_Two.f 200 136 x y = mandrelref02_Two.j0 200 x y (⟨#[115, 104, 114, 95, 117]⟩ : ByteArray) 64 false := two_ref 136 x y 64 _ (by kernel_rfl) (by decide +kernel) (by kernel_rfl)
theorem r_119 (x y : Int) : mandrelref02_Two.f 200 119 x y = mandrelref02_Two.j0 200 x y (⟨#[114, 111, 116, 108]⟩ : ByteArray) 32 false := two_ref 119 x y 32 _ (by kernel_rfl) (by decide +kernel) (by kernel_rfl)
theorem r_137 (x y : Int) : mandrelref02_Two.f 200 137 x y = mandrelref02_Two.j0 200 x y (⟨#[114, 111, 116, 108]⟩ : ByteArray) 64 false := two_ref 137 x y 64 _ (by kernel_rfl) (by decide +kernel) (by kernel_rfl)
theorem r_120 (x y : Int) : mandrelref02_Two.f 200 120 x y = mandrelref02_Two.j0 200 x y (⟨#[114, 111, 116, 114]⟩ : ByteArray) 32 false := two_ref 120 x y 32 _ (by kernel_rfl) (by decide +kernel) (by kernel_rfl)
theorem r_138 (x y : Int) : mandrelref02_Two.f 200 138 x y = mandrelref02_Two.j0 200 x y (⟨#[114, 111, 116, 114]⟩ : ByteArray) 64 false := two_ref 138 x y 64 _ (by kernel_rfl) (by decide +kernel) (by kernel_rfl)
end Go.Proofs.YtkpafgnchdohaaaDoor.Pure
