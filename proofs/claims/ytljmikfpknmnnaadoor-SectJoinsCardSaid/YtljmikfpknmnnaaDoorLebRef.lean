/- What the reference's TakeU and TakeS compute: the same as the program's. No program. -/
import Derived.Test.YtljmikfpknmnnaaDoorLebTake
import Derived.Test.YtljmikfpknmnnaaDoorXSx2
namespace Go.Proofs.YtljmikfpknmnnaaDoor.Leb
open Go Go.RowKit Go.Proofs.YtljmikfpknmnnaaDoor.M Go.Proofs.YtljmikfpknmnnaaDoor.XS Go.Proofs.YtljmikfpknmnnaaDoorW.PrintWords Go.Proofs.YtljmikfpknmnnaaDoorW.PrintLast Go.Proofs.YtljmikfpknmnnaaDoorW.PrintMore

def valN : List Int → Nat
  | [] => 0
  | c :: r => 2 ^ 7 * valN r + (c % 128).toNat
theorem valN_eq (l : List Int) : (valN l : Int) = valU l := by
  induction l with
  | nil => rfl
  | cons c r ih => simp only [valN, valU, ← ih]; omega
theorem valN_bit (l : List Int) : ∀ k : Nat, (valN l).testBit k = ((l.getD (k / 7) 0) % 128).toNat.testBit (k % 7) := by
  induction l with
  | nil => intro k; simp [valN]
  | cons c r ih =>
    intro k
    simp only [valN]
    rw [Nat.testBit_two_pow_mul_add _ (by omega)]
    by_cases h : k < 7
    · rw [if_pos h, show k / 7 = 0 by omega, show k % 7 = k by omega]
      rfl
    · rw [if_neg h, ih (k - 7)]
      rw [show k / 7 = (k - 7) / 7 + 1 by omega, show k % 7 = (k - 7) % 7 by omega, List.getD_cons_succ]
theorem valN_lt (l : List Int) : valN l < 2 ^ (7 * l.length) := by
  have h := valU_lt l
  rw [← valN_eq] at h
  have e : ((128 : Int) ^ l.length) = ((128 ^ l.length : Nat) : Int) := by simp
  rw [e] at h
  rw [← pow7]
  omega
/-- The groups of the first bytes. -/
def grp (b : List Int) (n : Nat) : List Int := (b.take n).map (· % 128)
theorem valN_grp (b : List Int) (n : Nat) : valN (grp b n) = valN (b.take n) := by
  unfold grp
  induction b.take n with
  | nil => rfl
  | cons c r ih => simp only [List.map_cons, valN, ih]; omega
theorem grp_length (b : List Int) (n : Nat) (h : n ≤ b.length) : (grp b n).length = n := by simp [grp, h]
theorem grp_bytes (b : List Int) (n : Nat) : ∀ x ∈ grp b n, 0 ≤ x ∧ x < 128 := by
  intro x hx
  simp only [grp, List.mem_map] at hx
  obtain ⟨y, _, rfl⟩ := hx
  omega
theorem ref_bit (l : List Int) (k : Nat) (hl : ∀ x ∈ l, 0 ≤ x ∧ x < 128) (hk : k < 7 * l.length) (hk2 : k < 4611686018427387904) : mandrelref01_bit.f l (k : Int) = some ((valN l).testBit k) := by
  unfold mandrelref01_bit.f
  rw [Int.tdiv_eq_ediv_of_nonneg (by omega), Int.tmod_eq_emod_of_nonneg (by omega), w64_in (by omega) (by omega), if_neg (by omega), if_pos (by omega), if_pos (by omega), if_pos (by omega)]
  have hi : k / 7 < l.length := by omega
  have hb : 0 ≤ l.getD (k / 7) 0 ∧ l.getD (k / 7) 0 < 128 := by
    rw [List.getD_eq_getElem?_getD, List.getElem?_eq_getElem hi]
    exact hl _ (List.getElem_mem hi)
  have hr : rd l ((k : Int) / 7) = l.getD (k / 7) 0 := by
    show l.getD ((k : Int) / 7).toNat 0 = _
    rw [show ((k : Int) / 7).toNat = k / 7 by omega]
  rw [hr, valN_bit]
  obtain ⟨x, hx⟩ : ∃ x : Nat, l.getD (k / 7) 0 = (x : Int) := ⟨(l.getD (k / 7) 0).toNat, by omega⟩
  rw [hx] at hb ⊢
  have hs : shr .u8 (x : Int) ((k : Int) % 7) = ((x / 2 ^ (k % 7) : Nat) : Int) := by
    unfold shr
    rw [show ((k : Int) % 7).toNat = k % 7 by omega, Nat.min_eq_left (by show k % 7 ≤ 8; omega)]
    simp
  rw [hs, Int.tmod_eq_emod_of_nonneg (Int.natCast_nonneg _), show ((x : Int) % 128).toNat = x by omega, Nat.testBit_eq_decide_div_mod_eq]
  congr 1
  by_cases h : x / 2 ^ (k % 7) % 2 = 1
  · simp only [h, decide_true]
    rw [beq_iff_eq]
    omega
  · simp only [h, decide_false]
    rw [beq_eq_false_iff_ne]
    omega

theorem take_snoc_grp (b : List Int) (i : Nat) (h : i < b.length) : grp b i ++ [b.getD i 0 % 128] = grp b (i + 1) := by
  unfold grp
  rw [take_getD b i h, List.map_append]
  rfl
theorem group_l0 (b : List Int) (most : Nat) (hm : most ≤ 10) (hx : ∀ x ∈ b, 0 ≤ x ∧ x < 256) : ∀ (d i k : Nat), most - i = d → d < k → i ≤ b.length → i ≤ most → i ≤ firstSmall b →
    mandrelref01_group.l0 k b (most : Int) (grp b i) (i : Int) = some (if firstSmall b < b.length ∧ firstSmall b < most then (grp b (firstSmall b + 1), 0) else ([], if b.length < most then 4 else 6)) := by
  intro d
  induction d with
  | zero =>
    intro i k hd hk hi him hf
    obtain ⟨k, rfl⟩ : ∃ m, k = m + 1 := ⟨k - 1, by omega⟩
    simp only [mandrelref01_group.l0]
    rw [if_neg (by omega), if_neg (c := firstSmall b < b.length ∧ firstSmall b < most) (by omega), if_neg (by omega)]
  | succ d ih =>
    intro i k hd hk hi him hf
    obtain ⟨k, rfl⟩ : ∃ m, k = m + 1 := ⟨k - 1, by omega⟩
    have hfl := firstSmall_le b
    simp only [mandrelref01_group.l0]
    rw [if_pos (by omega)]
    by_cases h : i = b.length
    · rw [if_pos (by omega), if_neg (c := firstSmall b < b.length ∧ firstSmall b < most) (by omega), if_pos (by omega)]
    · have hr : rd b (i : Int) = b.getD i 0 := rfl
      have hbi : 0 ≤ b.getD i 0 ∧ b.getD i 0 < 256 := by
        rw [List.getD_eq_getElem?_getD, List.getElem?_eq_getElem (show i < b.length by omega)]
        exact hx _ (List.getElem_mem _)
      rw [if_neg (by omega), if_pos (by omega), if_pos (by omega), if_pos (by rw [grp_length _ _ hi]; omega), hr]
      simp only [Option.bind_some]
      rw [Int.tmod_eq_emod_of_nonneg hbi.1, take_snoc_grp b i (by omega)]
      by_cases h3 : i = firstSmall b
      · have h4 := firstSmall_at b (by omega)
        rw [← h3] at h4
        rw [if_pos h4, if_pos (by omega), h3]
      · have h4 := firstSmall_below b i (by omega)
        rw [if_neg (by omega), w64_in (by omega) (by omega)]
        exact ih (i + 1) k (by omega) (by omega) (by omega) (by omega) (by omega)
theorem group_f (b : List Int) (w k : Nat) (h0 : 1 ≤ w) (h1 : w ≤ 64) (hx : ∀ x ∈ b, 0 ≤ x ∧ x < 256) (hk : 20 ≤ k) :
    mandrelref01_group.f k b (w : Int) = some (if firstSmall b < b.length ∧ firstSmall b < (w + 6) / 7 then (grp b (firstSmall b + 1), 0) else ([], if b.length < (w + 6) / 7 then 4 else 6)) := by
  obtain ⟨k, rfl⟩ : ∃ m, k = m + 1 := ⟨k - 1, by omega⟩
  unfold mandrelref01_group.f
  rw [if_neg (by omega), show decide ((w : Int) > 64) = false by simp; omega]
  simp only [mandrelref01_group.j0]
  rw [if_neg (by simp), w64_in (x := (w : Int) + 6) (by omega) (by omega), Int.tdiv_eq_ediv_of_nonneg (by omega), w64_in (by omega) (by omega), show ((w : Int) + 6) / 7 = ((w + 6) / 7 : Nat) by omega]
  exact group_l0 b _ (by omega) hx ((w + 6) / 7) 0 k (by omega) (by omega) (by omega) (by omega) (by omega)
theorem group_bad (b : List Int) (w : Int) (k : Nat) (h : w < 1 ∨ 64 < w) (hk : 1 ≤ k) : mandrelref01_group.f k b w = some ([], 1) := by
  obtain ⟨k, rfl⟩ : ∃ m, k = m + 1 := ⟨k - 1, by omega⟩
  unfold mandrelref01_group.f
  by_cases h1 : w < 1
  · rw [if_pos h1]; simp [mandrelref01_group.j0]
  · rw [if_neg h1, show decide (w > 64) = true by simp; omega]; simp [mandrelref01_group.j0]

theorem mod_succ (v i : Nat) : v % 2 ^ (i + 1) = v % 2 ^ i + 2 ^ i * (v.testBit i).toNat := by
  rw [Nat.mod_pow_succ, Nat.testBit_eq_decide_div_mod_eq]
  have : v / 2 ^ i % 2 = 0 ∨ v / 2 ^ i % 2 = 1 := by omega
  rcases this with h | h <;> rw [h] <;> rfl
theorem p2 (k : Nat) : ((2 : Int) ^ k) = ((2 ^ k : Nat) : Int) := by simp
def pw (i : Nat) : Nat := 2 ^ i % 18446744073709551616
theorem pw_succ (i : Nat) : IntKind.u64.wrap (2 * (pw i : Int)) = (pw (i + 1) : Int) := by
  rw [u64w]
  unfold pw
  rw [Nat.pow_succ]
  generalize 2 ^ i = p
  omega
theorem pw_small (i : Nat) (h : i < 64) : pw i = 2 ^ i := by
  have h2 : 2 ^ i < 2 ^ 64 := Nat.pow_lt_pow_right (by decide) h
  unfold pw
  generalize 2 ^ i = p at *
  omega
theorem pw_zero : pw 0 = 1 := rfl
attribute [irreducible] pw
theorem cast64 {a : Nat} (h : a < 18446744073709551616) : (a : Int) < 18446744073709551616 := by omega
theorem refU_loop (l : List Int) (w : Nat) (h1 : w ≤ 64) (hl : ∀ x ∈ l, 0 ≤ x ∧ x < 128) (hll : l.length ≤ 10) : ∀ (d i k : Nat), 7 * l.length - i = d → 2 * d < k → i ≤ 7 * l.length → valN l % 2 ^ i < 2 ^ w →
    mandrelref01_TakeU.l0 k (w : Int) l ((valN l % 2 ^ i : Nat) : Int) (pw i : Int) (i : Int) = some (if valN l < 2 ^ w then ((valN l : Int), (l.length : Int), 0) else (0, 0, 6)) := by
  have hw64 : 2 ^ w ≤ 2 ^ 64 := Nat.pow_le_pow_right (by decide) h1
  intro d
  induction d with
  | zero =>
    intro i k hd hk hi hv
    obtain ⟨k, rfl⟩ : ∃ m, k = m + 1 := ⟨k - 1, by omega⟩
    have hlt := valN_lt l
    have e : valN l % 2 ^ i = valN l := by rw [show i = 7 * l.length by omega]; exact Nat.mod_eq_of_lt hlt
    rw [e] at hv ⊢
    simp only [mandrelref01_TakeU.l0]
    rw [w64_in (by omega) (by omega), if_neg (by omega), if_pos hv]
  | succ d ih =>
    intro i k hd hk hi hv
    obtain ⟨k, rfl⟩ : ∃ m, k = m + 1 + 1 := ⟨k - 2, by omega⟩
    simp only [mandrelref01_TakeU.l0]
    have b1 : i < 7 * l.length := by omega
    have b2 : i < 4611686018427387904 := by omega
    have b3 : 7 * l.length - (i + 1) = d := by omega
    have b4 : 2 * d < k := by omega
    have b5 : i + 1 ≤ 7 * l.length := by omega
    have b6 : (i : Int) < 7 * (l.length : Int) := by omega
    have b7 : (i : Int) + 1 = ((i + 1 : Nat) : Int) := by omega
    have e7 : wrap64 (7 * (l.length : Int)) = 7 * (l.length : Int) := w64_in (by omega) (by omega)
    have e8 : wrap64 ((i : Int) + 1) = (i : Int) + 1 := w64_in (by clear e7; omega) (by clear e7; omega)
    have hrb := ref_bit l i hl b1 b2
    have ei : wrap64 ((i : Int) + 1) = ((i + 1 : Nat) : Int) := e8.trans b7
    have ih2 := ih (i + 1) k b3 b4 b5
    have ep := pw_succ i
    rw [e7, if_pos b6, hrb]
    simp only [Option.bind_some]
    have hms := mod_succ (valN l) i
    clear ih hd hk b3 b4 b5
    cases hb : (valN l).testBit i with
    | false =>
      rw [hb] at hrb hms
      rw [if_neg (by simp)]
      simp only [mandrelref01_TakeU.j1]
      rw [if_neg (by simp), hrb]
      simp only [Option.bind_some]
      rw [if_neg (by simp), ep, ei]
      have e2 : valN l % 2 ^ (i + 1) = valN l % 2 ^ i := by simpa using hms
      have h9 := ih2 (by rw [e2]; exact hv)
      rw [e2] at h9
      exact h9
    | true =>
      rw [hb] at hrb hms
      rw [if_pos rfl]
      simp only [mandrelref01_TakeU.j1]
      by_cases hw : w ≤ i
      · rw [if_pos (decide_eq_true (by exact_mod_cast hw)), if_neg]
        have h5 : 2 ^ i ≤ valN l := Nat.ge_two_pow_of_testBit hb
        have h6 : (2 : Nat) ^ w ≤ 2 ^ i := Nat.pow_le_pow_right (by decide) hw
        exact Nat.not_lt.2 (Nat.le_trans h6 h5)
      · have hwi : i + 1 ≤ w := Nat.lt_of_not_le hw
        rw [if_neg (by rw [decide_eq_false (by intro h; exact hw (by exact_mod_cast h))]; simp), hrb]
        simp only [Option.bind_some]
        rw [if_pos trivial, ep, ei]
        have e2 : valN l % 2 ^ (i + 1) = valN l % 2 ^ i + 2 ^ i := by simpa using hms
        have h7 : (2 : Nat) ^ (i + 1) ≤ 2 ^ w := Nat.pow_le_pow_right (by decide) hwi
        have h8 : valN l % 2 ^ (i + 1) < 2 ^ (i + 1) := Nat.mod_lt _ (Nat.pow_pos (by decide))
        have h10 : valN l % 2 ^ (i + 1) < 18446744073709551616 := Nat.lt_of_lt_of_le h8 (Nat.le_trans h7 hw64)
        have e4 : IntKind.u64.wrap (((valN l % 2 ^ i : Nat) : Int) + (pw i : Int)) = ((valN l % 2 ^ (i + 1) : Nat) : Int) := by
          rw [u64w, pw_small i (Nat.lt_of_lt_of_le hwi h1), ← Int.natCast_add, ← e2]
          exact Int.emod_eq_of_lt (Int.natCast_nonneg _) (cast64 h10)
        rw [e4]
        exact ih2 (Nat.lt_of_lt_of_le h8 h7)
/-- The reference's answer, out of the program's. -/
def told (r : Int × Int × Option Int) : Int × Int × Int := (r.1, r.2.1, r.2.2.getD 0)
theorem valN_top (b : List Int) (n : Nat) (h1 : 1 ≤ n) (hn : n ≤ b.length) (h : 0 ≤ b.getD (n - 1) 0 ∧ b.getD (n - 1) 0 < 128) : ((valN (b.take n) / 2 ^ (7 * (n - 1)) : Nat) : Int) = b.getD (n - 1) 0 := by
  have e := valU_take b (n - 1) (by omega)
  rw [show n - 1 + 1 = n by omega, ← valN_eq, ← valN_eq] at e
  have h2 := valN_lt (b.take (n - 1))
  rw [List.length_take, Nat.min_eq_left (by omega)] at h2
  obtain ⟨x, hx⟩ : ∃ x : Nat, b.getD (n - 1) 0 = (x : Int) := ⟨(b.getD (n - 1) 0).toNat, by omega⟩
  rw [hx] at h e ⊢
  have e2 : valN (b.take n) = valN (b.take (n - 1)) + 2 ^ (7 * (n - 1)) * x := by
    have e3 : ((128 : Int) ^ (n - 1)) = ((2 ^ (7 * (n - 1)) : Nat) : Int) := by rw [← pow7]; simp
    rw [e3, show (x : Int) % 128 = (x : Int) by omega] at e
    have e4 : ((2 ^ (7 * (n - 1)) : Nat) : Int) * (x : Int) = ((2 ^ (7 * (n - 1)) * x : Nat) : Int) := by simp
    rw [e4] at e
    omega
  rw [e2, Nat.add_mul_div_left _ _ (Nat.pow_pos (by decide)), Nat.div_eq_of_lt h2, Nat.zero_add]
theorem refU_take (b : List Int) (w k : Nat) (h0 : 1 ≤ w) (h1 : w ≤ 64) (hx : ∀ x ∈ b, 0 ≤ x ∧ x < 256) (hk : 200 ≤ k) : mandrelref01_TakeU.f k b (w : Int) = some (told (takeUOf b w)) := by
  unfold mandrelref01_TakeU.f takeUOf
  rw [group_f b w k h0 h1 hx (by omega)]
  simp only [Option.bind_some]
  by_cases h : firstSmall b < b.length ∧ firstSmall b < (w + 6) / 7
  · rw [if_pos h, if_pos h]
    simp only [if_true]
    have hgl := grp_length b (firstSmall b + 1) (by omega)
    have hloop := refU_loop (grp b (firstSmall b + 1)) w h1 (grp_bytes b _) (by omega) (7 * (grp b (firstSmall b + 1)).length) 0 k (by omega) (by omega) (by omega) (by rw [Nat.pow_zero, Nat.mod_one]; exact Nat.pow_pos (by decide))
    rw [Nat.pow_zero, Nat.mod_one, pw_zero] at hloop
    have hloop' : mandrelref01_TakeU.l0 k (w : Int) (grp b (firstSmall b + 1)) 0 1 0 = _ := hloop
    rw [hloop', valN_grp, hgl]
    have hat := firstSmall_at b h.1
    have hge : 0 ≤ b.getD (firstSmall b) 0 := by
      rw [List.getD_eq_getElem?_getD, List.getElem?_eq_getElem h.1]
      exact (hx _ (List.getElem_mem h.1)).1
    have htop := valN_top b (firstSmall b + 1) (by omega) (by omega) ⟨by simpa using hge, by simpa using hat⟩
    have hlt := valN_lt (b.take (firstSmall b + 1))
    rw [List.length_take, Nat.min_eq_left (by omega)] at hlt
    unfold endU
    have hdiv : b.getD (firstSmall b + 1 - 1) 0 / 2 ^ (w - 7 * (firstSmall b + 1 - 1)) = ((valN (b.take (firstSmall b + 1)) / 2 ^ w : Nat) : Int) := by
      rw [← htop, p2, ← Int.natCast_ediv, Nat.div_div_eq_div_mul, ← Nat.pow_add, show 7 * (firstSmall b + 1 - 1) + (w - 7 * (firstSmall b + 1 - 1)) = w by omega]
    rw [hdiv]
    have hw64 : 2 ^ w ≤ 2 ^ 64 := Nat.pow_le_pow_right (by decide) h1
    by_cases hv : valN (b.take (firstSmall b + 1)) < 2 ^ w
    · rw [if_pos hv, Nat.div_eq_of_lt hv, if_neg (by simp)]
      simp only [told, Option.getD_none, ← valN_eq]
      congr 2
      omega
    · rw [if_neg hv, if_pos]
      · rfl
      · refine ⟨?_, ?_⟩
        · apply Nat.lt_of_not_le
          intro h3
          have h4 : (2 : Nat) ^ (7 * (firstSmall b + 1)) ≤ 2 ^ w := Nat.pow_le_pow_right (by decide) h3
          omega
        · have : 0 < valN (b.take (firstSmall b + 1)) / 2 ^ w := Nat.div_pos (by omega) (Nat.pow_pos (by decide))
          omega
  · rw [if_neg h, if_neg h]
    simp only
    split <;> simp [told]
theorem refU_bad (b : List Int) (w : Int) (k : Nat) (h : w < 1 ∨ 64 < w) (hk : 1 ≤ k) : mandrelref01_TakeU.f k b w = some (0, 0, 1) := by
  unfold mandrelref01_TakeU.f
  rw [group_bad b w k h hk]
  rfl

end Go.Proofs.YtljmikfpknmnnaaDoor.Leb
