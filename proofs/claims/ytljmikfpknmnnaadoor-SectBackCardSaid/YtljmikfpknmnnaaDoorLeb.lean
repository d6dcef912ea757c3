/- What the functions of layer 1 compute, out of their printed forms: PutU, PutS, SizeU, SizeS, TakeU, TakeS. No program. -/
import Derived.Test.YtljmikfpknmnnaaDoorMath
import Derived.Test.YtljmikfpknmnnaaDoorXSx1
import Derived.Test.YtljmikfpknmnnaaDoorXSx2
import Derived.Test.YtljmikfpknmnnaaDoorXSx3
namespace Go.Proofs.YtljmikfpknmnnaaDoor.Leb
open Go Go.RowKit Go.Proofs.YtljmikfpknmnnaaDoor.M Go.Proofs.YtljmikfpknmnnaaDoor.XS Go.Proofs.YtljmikfpknmnnaaDoorW.PrintWords Go.Proofs.YtljmikfpknmnnaaDoorW.PrintLast Go.Proofs.YtljmikfpknmnnaaDoorW.PrintMore

theorem clone (l : List Int) (h : l.length < 140737488355328) : slices_Clone_byte_byte.f l = some l := by unfold slices_Clone_byte_byte.f; rw [if_pos h]

theorem putU_l0 (v : Nat) : ∀ (k : Nat) (a : List Int), (encU v).length ≤ k → a.length + (encU v).length < 140737488355328 → leb_PutU.l0 k (v : Int) a = some (a ++ encU v) := by
  induction v using indU with
  | lo v h =>
    intro k a hk ha
    rw [encU_lo h] at hk ha ⊢
    simp only [List.length_singleton] at hk ha
    obtain ⟨k, rfl⟩ : ∃ m, k = m + 1 := ⟨k - 1, by omega⟩
    simp only [leb_PutU.l0]
    rw [if_neg (by omega), if_pos (by omega), show (v : Int) % 256 = v by omega]
  | hi v h ih =>
    intro k a hk ha
    rw [encU_hi h] at hk ha ⊢
    simp only [List.length_cons] at hk ha
    obtain ⟨k, rfl⟩ : ∃ m, k = m + 1 := ⟨k - 1, by omega⟩
    simp only [leb_PutU.l0]
    rw [if_pos (by omega), if_pos (by omega), or128 _ (by omega) (by omega), show (v : Int) / 128 = ((v / 128 : Nat) : Int) by omega, ih k _ (by omega) (by simp only [List.length_append, List.length_singleton]; omega)]
    rw [List.append_assoc, show (v : Int) % 256 % 128 + 128 = ((v % 128 + 128 : Nat) : Int) by omega]
    rfl
theorem encU_10 {v : Nat} (h : v < 18446744073709551616) : (encU v).length ≤ 10 := encU_le 9 v (by omega)
theorem putU (v : Int) (b : List Int) (k : Nat) (hk : 10 ≤ k) (hb : b.length + 10 < 140737488355328) (h0 : 0 ≤ v) (h1 : v < 18446744073709551616) : leb_PutU.f k b v = some (b ++ encU v.toNat) := by
  have h := encU_10 (v := v.toNat) (by omega)
  unfold leb_PutU.f
  rw [clone b (by omega)]
  simp only [Option.bind_some]
  have h2 := putU_l0 v.toNat k b (by omega) (by omega)
  rw [Int.toNat_of_nonneg h0] at h2
  exact h2

theorem putS_l0 (v : Int) : ∀ (k : Nat) (a : List Int), (encS v).length ≤ k → a.length + (encS v).length < 140737488355328 → leb_PutS.l0 k v a = some (a ++ encS v) := by
  induction v using indS with
  | lo v h0 h1 =>
    intro k a hk ha
    rw [encS_lo h0 h1] at hk ha ⊢
    simp only [List.length_singleton] at hk ha
    obtain ⟨k, rfl⟩ : ∃ m, k = m + 1 := ⟨k - 1, by omega⟩
    simp only [leb_PutS.l0]
    rw [if_neg (by omega), if_neg (by omega), if_pos (by omega), andNot128 _ (by omega) (by omega), show v % 256 % 128 = v % 128 by omega]
  | hi v h ih =>
    intro k a hk ha
    rw [encS_hi h] at hk ha ⊢
    simp only [List.length_cons] at hk ha
    obtain ⟨k, rfl⟩ : ∃ m, k = m + 1 := ⟨k - 1, by omega⟩
    have e : leb_PutS.l0 k (v / 128) (a ++ [bits .or .u8 (v % 256) 128]) = some (a ++ (v % 128 + 128) :: encS (v / 128)) := by
      rw [or128 _ (by omega) (by omega), ih k _ (by omega) (by simp only [List.length_append, List.length_singleton]; omega), List.append_assoc, show v % 256 % 128 + 128 = v % 128 + 128 by omega]
      rfl
    simp only [leb_PutS.l0]
    rcases h with h | h
    · rw [if_pos h, if_pos (by omega), e]
    · rw [if_neg (by omega), if_pos h, if_pos (by omega), e]
theorem encS_10 {v : Int} (h0 : -9223372036854775808 ≤ v) (h1 : v ≤ 9223372036854775807) : (encS v).length ≤ 10 := encS_le 9 v (by unfold mag; split <;> omega)
theorem putS (v : Int) (b : List Int) (k : Nat) (hk : 10 ≤ k) (hb : b.length + 10 < 140737488355328) (h0 : -9223372036854775808 ≤ v) (h1 : v ≤ 9223372036854775807) : leb_PutS.f k b v = some (b ++ encS v) := by
  have h := encS_10 h0 h1
  unfold leb_PutS.f
  rw [clone b (by omega)]
  simp only [Option.bind_some]
  exact putS_l0 v k b (by omega) (by omega)
theorem sizeU (v : Int) (h0 : 0 ≤ v) (h1 : v < 18446744073709551616) : leb_SizeU.f v = some ((encU v.toNat).length : Int) := by
  unfold leb_SizeU.f bits_Len64.f
  rw [if_pos h0, if_pos (by omega)]
  simp only [Option.bind_some]
  have h := sizeU_len v.toNat (by omega)
  have h2 := encU_10 (v := v.toNat) (by omega)
  generalize Lib.bitLen v.toNat = n at h ⊢
  generalize (encU v.toNat).length = m at h h2 ⊢
  have hn : n ≤ 76 := by omega
  congr 1
  rw [w64_in (x := (n : Int) + 7) (by omega) (by omega), w64_in (x := (n : Int) + 7 - 1) (by omega) (by omega), Int.tdiv_eq_ediv_of_nonneg (by omega), w64_in (by omega) (by omega)]
  unfold mx
  split <;> omega
theorem sizeS (v : Int) (h0 : -9223372036854775808 ≤ v) (h1 : v ≤ 9223372036854775807) : leb_SizeS.f v = some ((encS v).length : Int) := by
  unfold leb_SizeS.f bits_Len64.f
  have hm : IntKind.u64.wrap (bits .xor .i64 v (v / 9223372036854775808)) = (mag v : Int) := by
    rw [xor_sign v h0 h1, u64w]
    unfold mag
    split <;> omega
  have hl : mag v < 9223372036854775808 := by unfold mag; split <;> omega
  rw [hm, if_pos (by omega), if_pos (by omega)]
  simp only [Option.bind_some, Int.toNat_natCast]
  have h := sizeS_len v hl
  have h2 := encS_10 h0 h1
  generalize Lib.bitLen (mag v) = n at h ⊢
  generalize (encS v).length = m at h h2 ⊢
  congr 1
  rw [w64_in (x := (n : Int) + 7) (by omega) (by omega), Int.tdiv_eq_ediv_of_nonneg (by omega), w64_in (by omega) (by omega)]
  omega

/-! ### taking -/
/-- How many bytes, or the error. -/
def lenOf (b : List Int) (w : Nat) : Int × Option Int := if firstSmall b < b.length ∧ firstSmall b < (w + 6) / 7 then ((firstSmall b : Int) + 1, none) else (0, some (if b.length < (w + 6) / 7 then 4 else 6))
theorem length_l0 (b : List Int) (most : Nat) (hb : b.length < 4611686018427387904) : ∀ (d i k : Nat), b.length - i = d → d < k → i ≤ b.length → i ≤ most → i ≤ firstSmall b →
    leb_length.l0 k b (most : Int) b (b.length : Int) (i : Int) = some (if firstSmall b < b.length ∧ firstSmall b < most then ((firstSmall b : Int) + 1, none) else (0, some (if b.length < most then 4 else 6))) := by
  intro d
  induction d with
  | zero =>
    intro i k hd hk hi hm hf
    obtain ⟨k, rfl⟩ : ∃ m, k = m + 1 := ⟨k - 1, by omega⟩
    have := firstSmall_le b
    simp only [leb_length.l0]
    rw [if_neg (by omega), if_neg (c := firstSmall b < b.length ∧ firstSmall b < most) (by omega)]
    split <;> rename_i h
    · rw [if_pos (by omega)]
    · rw [if_neg (by omega)]
  | succ d ih =>
    intro i k hd hk hi hm hf
    obtain ⟨k, rfl⟩ : ∃ m, k = m + 1 := ⟨k - 1, by omega⟩
    simp only [leb_length.l0]
    rw [if_pos (by omega), if_pos (by omega), if_pos (by omega)]
    by_cases h : i = most
    · rw [if_pos (by omega), if_neg (c := firstSmall b < b.length ∧ firstSmall b < most) (by omega)]
      split <;> rename_i h2
      · rw [if_pos (by omega)]
      · rw [if_neg (by omega)]
    · rw [if_neg (by omega)]
      have hr : rd b (i : Int) = b.getD i 0 := rfl
      rw [hr]
      by_cases h3 : i = firstSmall b
      · have h4 := firstSmall_at b (by omega)
        rw [← h3] at h4
        rw [if_pos h4, if_pos (by omega), w64_in (by omega) (by omega), h3]
      · have h4 := firstSmall_below b i (by omega)
        rw [if_neg (by omega), w64_in (by omega) (by omega)]
        exact ih (i + 1) k (by omega) (by omega) (by omega) (by omega) (by omega)
theorem length_f (b : List Int) (w : Nat) (k : Nat) (hw : w ≤ 64) (hb : b.length < 4611686018427387904) (hk : b.length < k) : leb_length.f k b (w : Int) = some (lenOf b w) := by
  unfold leb_length.f lenOf
  rw [w64_in (x := (w : Int) + 7) (by omega) (by omega), w64_in (x := (w : Int) + 7 - 1) (by omega) (by omega), Int.tdiv_eq_ediv_of_nonneg (by omega), w64_in (by omega) (by omega), show ((w : Int) + 7 - 1) / 7 = ((w + 6) / 7 : Nat) by omega]
  exact length_l0 b _ hb b.length 0 k (by omega) (by omega) (by omega) (by omega) (by omega)
theorem check_ok (w : Nat) (h0 : 1 ≤ w) (h1 : w ≤ 64) : leb_check.f (w : Int) = some none := by
  unfold leb_check.f
  rw [if_neg (by omega), if_neg (by omega)]
theorem check_no (w : Int) (h : w < 1 ∨ 64 < w) : leb_check.f w = some (some 1) := by
  unfold leb_check.f
  split
  · rfl
  · rw [if_pos (by omega)]

/-- A number without a sign taken off n bytes: the number, or too many bits. -/
def endU (b : List Int) (w n : Nat) : Int × Int × Option Int :=
  if w < 7 * n ∧ b.getD (n - 1) 0 / 2 ^ (w - 7 * (n - 1)) ≠ 0 then (0, 0, some 6) else (valU (b.take n) % 18446744073709551616, (n : Int), none)
theorem take_getD (b : List Int) (i : Nat) (h : i < b.length) : b.take (i + 1) = b.take i ++ [b.getD i 0] := by
  rw [List.take_succ_eq_append_getElem h, List.getD_eq_getElem?_getD, List.getElem?_eq_getElem h]
  rfl
theorem valU_take (b : List Int) (i : Nat) (h : i < b.length) : valU (b.take (i + 1)) = valU (b.take i) + 128 ^ i * (b.getD i 0 % 128) := by
  rw [take_getD b i h, valU_append, List.length_take, Nat.min_eq_left (by omega)]
  simp [valU]
theorem takeU_l0 (b : List Int) (w n : Nat) (hn : n ≤ b.length) (hn1 : 1 ≤ n) (hn2 : n ≤ 10) (hw : w ≤ 64) (hw2 : 7 * (n - 1) ≤ w) (hx : ∀ x ∈ b, 0 ≤ x ∧ x < 256) :
    ∀ (m k : Nat) (x : Int), m ≤ n → m < k → leb_TakeU.l0 k b (w : Int) (n : Int) (x % 18446744073709551616) ((m : Int) - 1) =
      some (if w < 7 * n ∧ b.getD (n - 1) 0 / 2 ^ (w - 7 * (n - 1)) ≠ 0 then (0, 0, some 6) else ((x * 128 ^ m + valU (b.take m)) % 18446744073709551616, (n : Int), none)) := by
  have hbd : ∀ i : Nat, i < b.length → 0 ≤ b.getD i 0 ∧ b.getD i 0 < 256 := by
    intro i hi
    rw [List.getD_eq_getElem?_getD, List.getElem?_eq_getElem hi]
    exact hx _ (List.getElem_mem hi)
  intro m
  induction m with
  | zero =>
    intro k x hm hk
    obtain ⟨k, rfl⟩ : ∃ m, k = m + 1 := ⟨k - 1, by omega⟩
    simp only [leb_TakeU.l0]
    have e1 : wrap64 ((n : Int) - 1) = ((n - 1 : Nat) : Int) := by rw [w64_in (by omega) (by omega)]; omega
    have e2 : wrap64 ((w : Int) - wrap64 (7 * wrap64 ((n : Int) - 1))) = ((w - 7 * (n - 1) : Nat) : Int) := by
      rw [e1, w64_in (x := 7 * ((n - 1 : Nat) : Int)) (by omega) (by omega), w64_in (by omega) (by omega)]; omega
    rw [if_neg (by omega), e2, e1]
    have hr : rd b ((n - 1 : Nat) : Int) = b.getD (n - 1) 0 := by simp [rd]
    have hd := hbd (n - 1) (by omega)
    simp only [Int.pow_zero, Int.mul_one, List.take_zero, valU, Int.add_zero]
    by_cases h : w < 7 * n
    · rw [if_pos (by omega), if_pos (by omega), if_pos (by omega), if_pos (by omega), hr]
      have hs : shr .u8 (b.getD (n - 1) 0) ((w - 7 * (n - 1) : Nat) : Int) = b.getD (n - 1) 0 / 2 ^ (w - 7 * (n - 1)) := by
        unfold shr
        rw [Int.toNat_natCast, Nat.min_eq_left (by show w - 7 * (n - 1) ≤ 8; omega)]
      rw [hs]
      by_cases h2 : b.getD (n - 1) 0 / 2 ^ (w - 7 * (n - 1)) = 0
      · rw [if_pos h2, if_neg (by intro h3; exact h3.2 h2)]
      · rw [if_neg h2, if_pos ⟨h, h2⟩]
    · rw [if_neg (by omega), if_neg (by omega)]
  | succ m ih =>
    intro k x hm hk
    obtain ⟨k, rfl⟩ : ∃ m, k = m + 1 := ⟨k - 1, by omega⟩
    simp only [leb_TakeU.l0]
    have hd := hbd m (by omega)
    have hr : rd b ((m + 1 : Nat) - 1 : Int) = b.getD m 0 := by
      show b.getD (((m + 1 : Nat) : Int) - 1).toNat 0 = _
      rw [show (((m + 1 : Nat) : Int) - 1).toNat = m by omega]
    rw [if_pos (by omega), if_pos (by omega), if_pos (by omega), hr, andNot128 _ hd.1 hd.2, u64w (b.getD m 0 % 128), show b.getD m 0 % 128 % 18446744073709551616 = b.getD m 0 % 128 by omega]
    have e : IntKind.u64.wrap (x % 18446744073709551616 * 128) = IntKind.u64.wrap (x * 128) := by rw [u64w, u64w]; omega
    rw [e, or7_u64 x _ (by omega) (by omega), w64_in (by omega) (by omega), show ((m + 1 : Nat) : Int) - 1 - 1 = (m : Int) - 1 by omega]
    rw [ih k _ (by omega) (by omega), valU_take b m (by omega)]
    rw [show (x * 128 + b.getD m 0 % 128) * 128 ^ m + valU (b.take m) = x * 128 ^ (m + 1) + (valU (b.take m) + 128 ^ m * (b.getD m 0 % 128)) by
      rw [Int.add_mul, Int.pow_succ, Int.mul_assoc, Int.mul_comm 128 (128 ^ m), Int.mul_comm (b.getD m 0 % 128) (128 ^ m)]; omega]
/-- TakeU, as a whole. -/
def takeUOf (b : List Int) (w : Nat) : Int × Int × Option Int :=
  if firstSmall b < b.length ∧ firstSmall b < (w + 6) / 7 then endU b w (firstSmall b + 1) else (0, 0, some (if b.length < (w + 6) / 7 then 4 else 6))
theorem takeU (b : List Int) (w k : Nat) (h0 : 1 ≤ w) (h1 : w ≤ 64) (hb : b.length < 4611686018427387904) (hx : ∀ x ∈ b, 0 ≤ x ∧ x < 256) (hk : b.length + 12 ≤ k) : leb_TakeU.f k b (w : Int) = some (takeUOf b w) := by
  unfold leb_TakeU.f takeUOf
  rw [check_ok w h0 h1]
  simp only [Option.bind_some, Option.isNone_none, if_true]
  rw [length_f b w k h1 hb (by omega)]
  unfold lenOf
  simp only [Option.bind_some]
  split
  · rename_i h
    simp only [Option.isNone_none, if_true]
    have e := takeU_l0 b w (firstSmall b + 1) (by omega) (by omega) (by omega) h1 (by omega) hx (firstSmall b + 1) k 0 (Nat.le_refl _) (by omega)
    rw [show ((firstSmall b + 1 : Nat) : Int) = (firstSmall b : Int) + 1 by omega, show (0 : Int) % 18446744073709551616 = 0 by rfl] at e
    rw [w64_in (by omega) (by omega), e]
    unfold endU
    simp only [Int.zero_mul, Int.zero_add]
    rfl
  · rfl
theorem takeU_bad (b : List Int) (w : Int) (k : Nat) (h : w < 1 ∨ 64 < w) : leb_TakeU.f k b w = some (0, 0, some 1) := by
  unfold leb_TakeU.f
  rw [check_no w h]
  rfl

/-- A number with a sign taken off n bytes. -/
def topS (b : List Int) (n : Nat) : Int := ((b.getD (n - 1) 0 * 2) % 256 + 128) % 256 / 2 - 64
def endS (b : List Int) (w n : Nat) : Int × Int × Option Int :=
  if w < 7 * n ∧ ¬ (topS b n / 2 ^ (w - 7 * (n - 1) - 1) = 0 ∨ topS b n / 2 ^ (w - 7 * (n - 1) - 1) = -1) then (0, 0, some 6)
  else (wrap64 (valU (b.take n) - (if b.getD (n - 1) 0 / 64 % 2 = 0 then 0 else 128 ^ n)), (n : Int), none)
theorem top_eq (b : Int) : IntKind.i8.wrap (b * 2 % 256) / 2 = ((b * 2) % 256 + 128) % 256 / 2 - 64 := by rw [i8w]; omega
theorem takeS_l0 (b : List Int) (w n : Nat) (hn : n ≤ b.length) (hn1 : 1 ≤ n) (hn2 : n ≤ 10) (hw : w ≤ 64) (hw2 : 7 * (n - 1) < w) (hx : ∀ x ∈ b, 0 ≤ x ∧ x < 256) :
    ∀ (m k : Nat) (x : Int), m ≤ n → m < k → leb_TakeS.l0 k b (w : Int) (n : Int) (wrap64 x) ((m : Int) - 1) =
      some (if w < 7 * n ∧ ¬ (topS b n / 2 ^ (w - 7 * (n - 1) - 1) = 0 ∨ topS b n / 2 ^ (w - 7 * (n - 1) - 1) = -1) then (0, 0, some 6) else (wrap64 (x * 128 ^ m + valU (b.take m)), (n : Int), none)) := by
  have hbd : ∀ i : Nat, i < b.length → 0 ≤ b.getD i 0 ∧ b.getD i 0 < 256 := by
    intro i hi
    rw [List.getD_eq_getElem?_getD, List.getElem?_eq_getElem hi]
    exact hx _ (List.getElem_mem hi)
  intro m
  induction m with
  | zero =>
    intro k x hm hk
    obtain ⟨k, rfl⟩ : ∃ m, k = m + 1 := ⟨k - 1, by omega⟩
    simp only [leb_TakeS.l0]
    have e1 : wrap64 ((n : Int) - 1) = ((n - 1 : Nat) : Int) := by rw [w64_in (by omega) (by omega)]; omega
    have e2 : wrap64 ((w : Int) - wrap64 (7 * wrap64 ((n : Int) - 1))) = ((w - 7 * (n - 1) : Nat) : Int) := by
      rw [e1, w64_in (x := 7 * ((n - 1 : Nat) : Int)) (by omega) (by omega), w64_in (by omega) (by omega)]; omega
    have e3 : wrap64 (((w - 7 * (n - 1) : Nat) : Int) - 1) = ((w - 7 * (n - 1) - 1 : Nat) : Int) := by rw [w64_in (by omega) (by omega)]; omega
    rw [if_neg (by omega), e2, e1, e3]
    have hr : rd b ((n - 1 : Nat) : Int) = b.getD (n - 1) 0 := by simp [rd]
    have hd := hbd (n - 1) (by omega)
    simp only [Int.pow_zero, Int.mul_one, List.take_zero, valU, Int.add_zero]
    by_cases h : w < 7 * n
    · rw [if_pos (by omega), if_pos (by omega), if_pos (by omega), if_pos (by omega), hr]
      have hs : shr .i8 (IntKind.i8.wrap (b.getD (n - 1) 0 * 2 % 256) / 2) ((w - 7 * (n - 1) - 1 : Nat) : Int) = topS b n / 2 ^ (w - 7 * (n - 1) - 1) := by
        unfold shr topS
        rw [Int.toNat_natCast, Nat.min_eq_left (by show w - 7 * (n - 1) - 1 ≤ 8; omega), top_eq]
      rw [hs]
      by_cases h2 : topS b n / 2 ^ (w - 7 * (n - 1) - 1) = 0
      · rw [if_pos h2, if_neg (by intro h3; exact h3.2 (.inl h2))]
      · rw [if_neg h2]
        by_cases h3 : topS b n / 2 ^ (w - 7 * (n - 1) - 1) = -1
        · rw [if_pos h3, if_neg (by intro h4; exact h4.2 (.inr h3))]
        · rw [if_neg h3, if_pos ⟨h, by intro h4; rcases h4 with h4 | h4; exact h2 h4; exact h3 h4⟩]
    · rw [if_neg (by omega), if_neg (by omega)]
  | succ m ih =>
    intro k x hm hk
    obtain ⟨k, rfl⟩ : ∃ m, k = m + 1 := ⟨k - 1, by omega⟩
    simp only [leb_TakeS.l0]
    have hd := hbd m (by omega)
    have hr : rd b ((m + 1 : Nat) - 1 : Int) = b.getD m 0 := by
      show b.getD (((m + 1 : Nat) : Int) - 1).toNat 0 = _
      rw [show (((m + 1 : Nat) : Int) - 1).toNat = m by omega]
    rw [if_pos (by omega), if_pos (by omega), if_pos (by omega), hr, andNot128 _ hd.1 hd.2, w64_in (x := b.getD m 0 % 128) (by omega) (by omega)]
    have e : wrap64 (wrap64 x * 128) = wrap64 (x * 128) := by unfold wrap64; omega
    rw [e, or7_i64 x _ (by omega) (by omega), w64_in (x := ((m + 1 : Nat) : Int) - 1 - 1) (by omega) (by omega), show ((m + 1 : Nat) : Int) - 1 - 1 = (m : Int) - 1 by omega]
    rw [ih k _ (by omega) (by omega), valU_take b m (by omega)]
    rw [show (x * 128 + b.getD m 0 % 128) * 128 ^ m + valU (b.take m) = x * 128 ^ (m + 1) + (valU (b.take m) + 128 ^ m * (b.getD m 0 % 128)) by
      rw [Int.add_mul, Int.pow_succ, Int.mul_assoc, Int.mul_comm 128 (128 ^ m), Int.mul_comm (b.getD m 0 % 128) (128 ^ m)]; omega]
def takeSOf (b : List Int) (w : Nat) : Int × Int × Option Int :=
  if firstSmall b < b.length ∧ firstSmall b < (w + 6) / 7 then endS b w (firstSmall b + 1) else (0, 0, some (if b.length < (w + 6) / 7 then 4 else 6))
theorem takeS (b : List Int) (w k : Nat) (h0 : 1 ≤ w) (h1 : w ≤ 64) (hb : b.length < 4611686018427387904) (hx : ∀ x ∈ b, 0 ≤ x ∧ x < 256) (hk : b.length + 13 ≤ k) : leb_TakeS.f k b (w : Int) = some (takeSOf b w) := by
  unfold leb_TakeS.f takeSOf
  rw [check_ok w h0 h1]
  simp only [Option.bind_some, Option.isNone_none, if_true]
  rw [length_f b w k h1 hb (by omega)]
  unfold lenOf
  simp only [Option.bind_some]
  split
  · rename_i h
    simp only [Option.isNone_none, if_true]
    have hbd : 0 ≤ b.getD (firstSmall b) 0 ∧ b.getD (firstSmall b) 0 < 256 := by
      rw [List.getD_eq_getElem?_getD, List.getElem?_eq_getElem h.1]
      exact hx _ (List.getElem_mem h.1)
    have e1 : wrap64 ((firstSmall b : Int) + 1 - 1) = (firstSmall b : Int) := by rw [w64_in (by omega) (by omega)]; omega
    rw [e1, if_pos (by omega), if_pos (by omega)]
    have hr : rd b (firstSmall b : Int) = b.getD (firstSmall b) 0 := rfl
    rw [hr, and64 _ hbd.1 hbd.2]
    obtain ⟨k, rfl⟩ : ∃ m, k = m + 1 := ⟨k - 1, by omega⟩
    simp only [leb_TakeS.j0]
    have e := fun x => takeS_l0 b w (firstSmall b + 1) (by omega) (by omega) (by omega) h1 (by omega) hx (firstSmall b + 1) k x (Nat.le_refl _) (by omega)
    rw [show ((firstSmall b + 1 : Nat) : Int) = (firstSmall b : Int) + 1 by omega] at e
    rw [show wrap64 ((firstSmall b : Int) + 1 - 1) = (firstSmall b : Int) + 1 - 1 by rw [e1]; omega]
    unfold endS
    rw [show firstSmall b + 1 - 1 = firstSmall b by omega]
    by_cases h2 : b.getD (firstSmall b) 0 / 64 % 2 = 0
    · rw [if_pos (by omega), if_pos h2]
      have e2 := e 0
      rw [w64_in (x := 0) (by omega) (by omega)] at e2
      rw [e2]
      simp only [Int.zero_mul, Int.zero_add, Int.sub_zero, Nat.add_sub_cancel]
      rfl
    · rw [if_neg (by omega), if_neg h2]
      have e2 := e (-1)
      rw [w64_in (x := -1) (by omega) (by omega)] at e2
      rw [e2]
      simp only [Nat.add_sub_cancel]
      rw [show -1 * (128 : Int) ^ (firstSmall b + 1) + valU (b.take (firstSmall b + 1)) = valU (b.take (firstSmall b + 1)) - 128 ^ (firstSmall b + 1) by omega]
      rfl
  · rfl
theorem takeS_bad (b : List Int) (w : Int) (k : Nat) (h : w < 1 ∨ 64 < w) : leb_TakeS.f k b w = some (0, 0, some 1) := by
  unfold leb_TakeS.f
  rw [check_no w h]
  rfl

end Go.Proofs.YtljmikfpknmnnaaDoor.Leb
