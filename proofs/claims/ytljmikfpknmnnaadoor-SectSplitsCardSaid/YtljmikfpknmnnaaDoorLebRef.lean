/- What the reference's TakeU and TakeS compute: the same as the program's. No program. -/
import Derived.Test.YtljmikfpknmnnaaDoorLebTake
import Derived.Test.YtljmikfpknmnnaaDoorXSx2
namespace Go.Proofs.YtljmikfpknmnnaaDoor.Leb
open Go Go.RowKit Go.Proofs.YtljmikfpknmnnaaDoor.M Go.Proofs.YtljmikfpknmnnaaDoor.XS Go.Proofs.YtljmikfpknmnnaaDoorW.PrintWords Go.Proofs.YtljmikfpknmnnaaDoorW.PrintLast Go.Proofs.YtljmikfpknmnnaaDoorW.PrintMore

def valN : List Int → Nat
  | [] => 0
  | c :: r => 2 ^ 7 * valN r + (c % 128).toNat
theorem valN_eq (l : List Int) : (valN l : Int) = valU l := by
  induction l with
  | nil => rfl
  | cons c r ih => simp only [valN, valU, ← ih]; omega
theorem valN_bit (l : List Int) : ∀ k : Nat, (valN l).testBit k = ((l.getD (k / 7) 0) % 128).toNat.testBit (k % 7) := by
  induction l with
  | nil => intro k; simp [valN]
  | cons c r ih =>
    intro k
    simp only [valN]
    rw [Nat.testBit_two_pow_mul_add _ (by omega)]
    by_cases h : k < 7
    · rw [if_pos h, show k / 7 = 0 by omega, show k % 7 = k by omega]
      rfl
    · rw [if_neg h, ih (k - 7)]
      rw [show k / 7 = (k - 7) / 7 + 1 by omega, show k % 7 = (k - 7) % 7 by omega, List.getD_cons_succ]
theorem valN_lt (l : List Int) : valN l < 2 ^ (7 * l.length) := by
  have h := valU_lt l
  rw [← valN_eq] at h
  have e : ((128 : Int) ^ l.length) = ((128 ^ l.length : Nat) : Int) := by simp
  rw [e] at h
  rw [← pow7]
  omega
/-- The groups of the first bytes. -/
def grp (b : List Int) (n : Nat) : List Int := (b.take n).map (· % 128)
theorem valN_grp (b : List Int) (n : Nat) : valN (grp b n) = valN (b.take n) := by
  unfold grp
  induction b.take n with
  | nil => rfl
  | cons c r ih => simp only [List.map_cons, valN, ih]; omega
theorem grp_length (b : List Int) (n : Nat) (h : n ≤ b.length) : (grp b n).length = n := by simp [grp, h]
theorem grp_bytes (b : List Int) (n : Nat) : ∀ x ∈ grp b n, 0 ≤ x ∧ x < 128 := by
  intro x hx
  simp only [grp, List.mem_map] at hx
  obtain ⟨y, _, rfl⟩ := hx
  omega
theorem ref_bit (l : List Int) (k : Nat) (hl : ∀ x ∈ l, 0 ≤ x ∧ x < 128) (hk : k < 7 * l.length) (hk2 : k < 4611686018427387904) : mandrelref01_bit.f l (k : Int) = some ((valN l).testBit k) := by
  unfold mandrelref01_bit.f
  rw [Int.tdiv_eq_ediv_of_nonneg (by omega), Int.tmod_eq_emod_of_nonneg (by omega), w64_in (by omega) (by omega), if_neg (by omega), if_pos (by omega), if_pos (by omega), if_pos (by omega)]
  have hi : k / 7 < l.length := by omega
  have hb : 0 ≤ l.getD (k / 7) 0 ∧ l.getD (k / 7) 0 < 128 := by
    rw [List.getD_eq_getElem?_getD, List.getElem?_eq_getElem hi]
    exact hl _ (List.getElem_mem hi)
  have hr : rd l ((k : Int) / 7) = l.getD (k / 7) 0 := by
    show l.getD ((k : Int) / 7).toNat 0 = _
    rw [show ((k : Int) / 7).toNat = k / 7 by omega]
  rw [hr, valN_bit]
  obtain ⟨x, hx⟩ : ∃ x : Nat, l.getD (k / 7) 0 = (x : Int) := ⟨(l.getD (k / 7) 0).toNat, by omega⟩
  rw [hx] at hb ⊢
  have hs : shr .u8 (x : Int) ((k : Int) % 7) = ((x / 2 ^ (k % 7) : Nat) : Int) := by
    unfold shr
    rw [show ((k : Int) % 7).toNat = k % 7 by omega, Nat.min_eq_left (by show k % 7 ≤ 8; omega)]
    simp
  rw [hs, Int.tmod_eq_emod_of_nonneg (Int.natCast_nonneg _), show ((x : Int) % 128).toNat = x by omega, Nat.testBit_eq_decide_div_mod_eq]
  congr 1
  by_cases h : x / 2 ^ (k % 7) % 2 = 1
  · simp only [h, decide_true]
    rw [beq_iff_eq]
    omega
  · simp only [h, decide_false]
    rw [beq_eq_false_iff_ne]
    omega

theorem take_snoc_grp (b : List Int) (i : Nat) (h : i < b.length) : grp b i ++ [b.getD i 0 % 128] = grp b (i + 1) := by
  unfold grp
  rw [take_getD b i h, List.map_append]
  rfl
theorem group_l0 (b : List Int) (most : Nat) (hm : most ≤ 10) (hx : ∀ x ∈ b, 0 ≤ x ∧ x < 256) : ∀ (d i k : Nat), most - i = d → d < k → i ≤ b.length → i ≤ most → i ≤ firstSmall b →
    mandrelref01_group.l0 k b (most : Int) (grp b i) (i : Int) = some (if firstSmall b < b.length ∧ firstSmall b < most then (grp b (firstSmall b + 1), 0) else ([], if b.length < most then 4 else 6)) := by
  intro d
  induction d with
  | zero =>
    intro i k hd hk hi him hf
    obtain ⟨k, rfl⟩ : ∃ m, k = m + 1 := ⟨k - 1, by omega⟩
    simp only [mandrelref01_group.l0]
    rw [if_neg (by omega), if_neg (c := firstSmall b < b.length ∧ firstSmall b < most) (by omega), if_neg (by omega)]
  | succ d ih =>
    intro i k hd hk hi him hf
    obtain ⟨k, rfl⟩ : ∃ m, k = m + 1 := ⟨k - 1, by omega⟩
    have hfl := firstSmall_le b
    simp only [mandrelref01_group.l0]
    rw [if_pos (by omega)]
    by_cases h : i = b.length
    · rw [if_pos (by omega), if_neg (c := firstSmall b < b.length ∧ firstSmall b < most) (by omega), if_pos (by omega)]
    · have hr : rd b (i : Int) = b.getD i 0 := rfl
      have hbi : 0 ≤ b.getD i 0 ∧ b.getD i 0 < 256 := by
        rw [List.getD_eq_getElem?_getD, List.getElem?_eq_getElem (show i < b.length by omega)]
        exact hx _ (List.getElem_mem _)
      rw [if_neg (by omega), if_pos (by omega), if_pos (by omega), if_pos (by rw [grp_length _ _ hi]; omega), hr]
      simp only [Option.bind_some]
      rw [Int.tmod_eq_emod_of_nonneg hbi.1, take_snoc_grp b i (by omega)]
      by_cases h3 : i = firstSmall b
      · have h4 := firstSmall_at b (by omega)
        rw [← h3] at h4
        rw [if_pos h4, if_pos (by omega), h3]
      · have h4 := firstSmall_below b i (by omega)
        rw [if_neg (by omega), w64_in (by omega) (by omega)]
        exact ih (i + 1) k (by omega) (by omega) (by omega) (by omega) (by omega)
theorem group_f (b : List Int) (w k : Nat) (h0 : 1 ≤ w) (h1 : w ≤ 64) (hx : ∀ x ∈ b, 0 ≤ x ∧ x < 256) (hk : 20 ≤ k) :
    mandrelref01_group.f k b (w : Int) = some (if firstSmall b < b.length ∧ firstSmall b < (w + 6) / 7 then (grp b (firstSmall b + 1), 0) else ([], if b.length < (w + 6) / 7 then 4 else 6)) := by
  obtain ⟨k, rfl⟩ : ∃ m, k = m + 1 := ⟨k - 1, by omega⟩
  unfold mandrelref01_group.f
  rw [if_neg (by omega), show decide ((w : Int) > 64) = false by simp; omega]
  simp only [mandrelref01_group.j0]
  rw [if_neg (by simp), w64_in (x := (w : Int) + 6) (by omega) (by omega), Int.tdiv_eq_ediv_of_nonneg (by omega), w64_in (by omega) (by omega), show ((w : Int) + 6) / 7 = ((w + 6) / 7 : Nat) by omega]
  exact group_l0 b _ (by omega) hx ((w + 6) / 7) 0 k (by omega) (by omega) (by omega) (by omega) (by omega)
theorem group_bad (b : List Int) (w : Int) (k : Nat) (h : w < 1 ∨ 64 < w) (hk : 1 ≤ k) : mandrelref01_group.f k b w = some ([], 1) := by
  obtain ⟨k, rfl⟩ : ∃ m, k = m + 1 := ⟨k - 1, by omega⟩
  unfold mandrelref01_group.f
  by_cases h1 : w < 1
  · rw [if_pos h1]; simp [mandrelref01_group.j0]
  · rw [if_neg h1, show decide (w > 64) = true by simp; omega]; simp [mandrelref01_group.j0]

theorem mod_succ (v i : Nat) : v % 2 ^ (i + 1) = v % 2 ^ i + 2 ^ i * (v.testBit i).toNat := by
  rw [Nat.mod_pow_succ, Nat.testBit_eq_decide_div_mod_eq]
  have : v / 2 ^ i % 2 = 0 ∨ v / 2 ^ i % 2 = 1 := by omega
  rcases this with h | h <;> rw [h] <;> rfl
theorem p2 (k : Nat) : ((2 : Int) ^ k) = ((2 ^ k : Nat) : Int) := by simp
def pw (i : Nat) : Nat := 2 ^ i % 18446744073709551616
theorem pw_succ (i : Nat) : IntKind.u64.wrap (2 * (pw i : Int)) = (pw (i + 1) : Int) := by
  rw [u64w]
  unfold pw
  rw [Nat.pow_succ]
  generalize 2 ^ i = p
  omega
theorem pw_small (i : Nat) (h : i < 64) : pw i = 2 ^ i := by
  have h2 : 2 ^ i < 2 ^ 64 := Nat.pow_lt_pow_right (by decide) h
  unfold pw
  generalize 2 ^ i = p at *
  omega
theorem pw_zero : pw 0 = 1 := rfl
attribute [irreducible] pw
theorem cast64 {a : Nat} (h : a < 18446744073709551616) : (a : Int) < 18446744073709551616 := by omega
theorem refU_loop (l : List Int) (w : Nat) (h1 : w ≤ 64) (hl : ∀ x ∈ l, 0 ≤ x ∧ x < 128) (hll : l.length ≤ 10) : ∀ (d i k : Nat), 7 * l.length - i = d → 2 * d < k → i ≤ 7 * l.length → valN l % 2 ^ i < 2 ^ w →
    mandrelref01_TakeU.l0 k (w : Int) l ((valN l % 2 ^ i : Nat) : Int) (pw i : Int) (i : Int) = some (if valN l < 2 ^ w then ((valN l : Int), (l.length : Int), 0) else (0, 0, 6)) := by
  have hw64 : 2 ^ w ≤ 2 ^ 64 := Nat.pow_le_pow_right (by decide) h1
  intro d
  induction d with
  | zero =>
    intro i k hd hk hi hv
    obtain ⟨k, rfl⟩ : ∃ m, k = m + 1 := ⟨k - 1, by omega⟩
    have hlt := valN_lt l
    have e : valN l % 2 ^ i = valN l := by rw [show i = 7 * l.length by omega]; exact Nat.mod_eq_of_lt hlt
    rw [e] at hv ⊢
    simp only [mandrelref01_TakeU.l0]
    rw [w64_in (by omega) (by omega), if_neg (by omega), if_pos hv]
  | succ d ih =>
    intro i k hd hk hi hv
    obtain ⟨k, rfl⟩ : ∃ m, k = m + 1 + 1 := ⟨k - 2, by omega⟩
    simp only [mandrelref01_TakeU.l0]
    have b1 : i < 7 * l.length := by omega
    have b2 : i < 4611686018427387904 := by omega
    have b3 : 7 * l.length - (i + 1) = d := by omega
    have b4 : 2 * d < k := by omega
    have b5 : i + 1 ≤ 7 * l.length := by omega
    have b6 : (i : Int) < 7 * (l.length : Int) := by omega
    have b7 : (i : Int) + 1 = ((i + 1 : Nat) : Int) := by omega
    have e7 : wrap64 (7 * (l.length : Int)) = 7 * (l.length : Int) := w64_in (by omega) (by omega)
    have e8 : wrap64 ((i : Int) + 1) = (i : Int) + 1 := w64_in (by clear e7; omega) (by clear e7; omega)
    have hrb := ref_bit l i hl b1 b2
    have ei : wrap64 ((i : Int) + 1) = ((i + 1 : Nat) : Int) := e8.trans b7
    have ih2 := ih (i + 1) k b3 b4 b5
    have ep := pw_succ i
    rw [e7, if_pos b6, hrb]
    simp only [Option.bind_some]
    have hms := mod_succ (valN l) i
    clear ih hd hk b3 b4 b5
    cases hb : (valN l).testBit i with
    | false =>
      rw [hb] at hrb hms
      rw [if_neg (by simp)]
      simp only [mandrelref01_TakeU.j1]
      rw [if_neg (by simp), hrb]
      simp only [Option.bind_some]
      rw [if_neg (by simp), ep, ei]
      have e2 : valN l % 2 ^ (i + 1) = valN l % 2 ^ i := by simpa using hms
      have h9 := ih2 (by rw [e2]; exact hv)
      rw [e2] at h9
      exact h9
    | true =>
      rw [hb] at hrb hms
      rw [if_pos rfl]
      simp only [mandrelref01_TakeU.j1]
      by_cases hw : w ≤ i
      · rw [if_pos (decide_eq_true (by exact_mod_cast hw)), if_neg]
        have h5 : 2 ^ i ≤ valN l := Nat.ge_two_pow_of_testBit hb
        have h6 : (2 : Nat) ^ w ≤ 2 ^ i := Nat.pow_le_pow_right (by decide) hw
        exact Nat.not_lt.2 (Nat.le_trans h6 h5)
      · have hwi : i + 1 ≤ w := Nat.lt_of_not_le hw
        rw [if_neg (by rw [decide_eq_false (by intro h; exact hw (by exact_mod_cast h))]; simp), hrb]
        simp only [Option.bind_some]
        rw [if_pos trivial, ep, ei]
        have e2 : valN l % 2 ^ (i + 1) = valN l % 2 ^ i + 2 ^ i := by simpa using hms
        have h7 : (2 : Nat) ^ (i + 1) ≤ 2 ^ w := Nat.pow_le_pow_right (by decide) hwi
        have h8 : valN l % 2 ^ (i + 1) < 2 ^ (i + 1) := Nat.mod_lt _ (Nat.pow_pos (by decide))
        have h10 : valN l % 2 ^ (i + 1) < 18446744073709551616 := Nat.lt_of_lt_of_le h8 (Nat.le_trans h7 hw64)
        have e4 : IntKind.u64.wrap (((valN l % 2 ^ i : Nat) : Int) + (pw i : Int)) = ((valN l % 2 ^ (i + 1) : Nat) : Int) := by
          rw [u64w, pw_small i (Nat.lt_of_lt_of_le hwi h1), ← Int.natCast_add, ← e2]
          exact Int.emod_eq_of_lt (Int.natCast_nonneg _) (cast64 h10)
        rw [e4]
        exact ih2 (Nat.lt_of_lt_of_le h8 h7)
/-- The reference's answer, out of the program's. -/
def told (r : Int × Int × Option Int) : Int × Int × Int := (r.1, r.2.1, r.2.2.getD 0)
theorem valN_top (b : List Int) (n : Nat) (h1 : 1 ≤ n) (hn : n ≤ b.length) (h : 0 ≤ b.getD (n - 1) 0 ∧ b.getD (n - 1) 0 < 128) : ((valN (b.take n) / 2 ^ (7 * (n - 1)) : Nat) : Int) = b.getD (n - 1) 0 := by
  have e := valU_take b (n - 1) (by omega)
  rw [show n - 1 + 1 = n by omega, ← valN_eq, ← valN_eq] at e
  have h2 := valN_lt (b.take (n - 1))
  rw [List.length_take, Nat.min_eq_left (by omega)] at h2
  obtain ⟨x, hx⟩ : ∃ x : Nat, b.getD (n - 1) 0 = (x : Int) := ⟨(b.getD (n - 1) 0).toNat, by omega⟩
  rw [hx] at h e ⊢
  have e2 : valN (b.take n) = valN (b.take (n - 1)) + 2 ^ (7 * (n - 1)) * x := by
    have e3 : ((128 : Int) ^ (n - 1)) = ((2 ^ (7 * (n - 1)) : Nat) : Int) := by rw [← pow7]; simp
    rw [e3, show (x : Int) % 128 = (x : Int) by omega] at e
    have e4 : ((2 ^ (7 * (n - 1)) : Nat) : Int) * (x : Int) = ((2 ^ (7 * (n - 1)) * x : Nat) : Int) := by simp
    rw [e4] at e
    omega
  rw [e2, Nat.add_mul_div_left _ _ (Nat.pow_pos (by decide)), Nat.div_eq_of_lt h2, Nat.zero_add]
theorem refU_take (b : List Int) (w k : Nat) (h0 : 1 ≤ w) (h1 : w ≤ 64) (hx : ∀ x ∈ b, 0 ≤ x ∧ x < 256) (hk : 200 ≤ k) : mandrelref01_TakeU.f k b (w : Int) = some (told (takeUOf b w)) := by
  unfold mandrelref01_TakeU.f takeUOf
  rw [group_f b w k h0 h1 hx (by omega)]
  simp only [Option.bind_some]
  by_cases h : firstSmall b < b.length ∧ firstSmall b < (w + 6) / 7
  · rw [if_pos h, if_pos h]
    simp only [if_true]
    have hgl := grp_length b (firstSmall b + 1) (by omega)
    have hloop := refU_loop (grp b (firstSmall b + 1)) w h1 (grp_bytes b _) (by omega) (7 * (grp b (firstSmall b + 1)).length) 0 k (by omega) (by omega) (by omega) (by rw [Nat.pow_zero, Nat.mod_one]; exact Nat.pow_pos (by decide))
    rw [Nat.pow_zero, Nat.mod_one, pw_zero] at hloop
    have hloop' : mandrelref01_TakeU.l0 k (w : Int) (grp b (firstSmall b + 1)) 0 1 0 = _ := hloop
    rw [hloop', valN_grp, hgl]
    have hat := firstSmall_at b h.1
    have hge : 0 ≤ b.getD (firstSmall b) 0 := by
      rw [List.getD_eq_getElem?_getD, List.getElem?_eq_getElem h.1]
      exact (hx _ (List.getElem_mem h.1)).1
    have htop := valN_top b (firstSmall b + 1) (by omega) (by omega) ⟨by simpa using hge, by simpa using hat⟩
    have hlt := valN_lt (b.take (firstSmall b + 1))
    rw [List.length_take, Nat.min_eq_left (by omega)] at hlt
    unfold endU
    have hdiv : b.getD (firstSmall b + 1 - 1) 0 / 2 ^ (w - 7 * (firstSmall b + 1 - 1)) = ((valN (b.take (firstSmall b + 1)) / 2 ^ w : Nat) : Int) := by
      rw [← htop, p2, ← Int.natCast_ediv, Nat.div_div_eq_div_mul, ← Nat.pow_add, show 7 * (firstSmall b + 1 - 1) + (w - 7 * (firstSmall b + 1 - 1)) = w by omega]
    rw [hdiv]
    have hw64 : 2 ^ w ≤ 2 ^ 64 := Nat.pow_le_pow_right (by decide) h1
    by_cases hv : valN (b.take (firstSmall b + 1)) < 2 ^ w
    · rw [if_pos hv, Nat.div_eq_of_lt hv, if_neg (by simp)]
      simp only [told, Option.getD_none, ← valN_eq]
      congr 2
      omega
    · rw [if_neg hv, if_pos]
      · rfl
      · refine ⟨?_, ?_⟩
        · apply Nat.lt_of_not_le
          intro h3
          have h4 : (2 : Nat) ^ (7 * (firstSmall b + 1)) ≤ 2 ^ w := Nat.pow_le_pow_right (by decide) h3
          omega
        · have : 0 < valN (b.take (firstSmall b + 1)) / 2 ^ w := Nat.div_pos (by omega) (Nat.pow_pos (by decide))
          omega
  · rw [if_neg h, if_neg h]
    simp only
    split <;> simp [told]
theorem refU_bad (b : List Int) (w : Int) (k : Nat) (h : w < 1 ∨ 64 < w) (hk : 1 ≤ k) : mandrelref01_TakeU.f k b w = some (0, 0, 1) := by
  unfold mandrelref01_TakeU.f
  rw [group_bad b w k h hk]
  rfl

/-! ### with a sign -/
theorem refS_same (l : List Int) (below : Bool) (hl : ∀ x ∈ l, 0 ≤ x ∧ x < 128) (hll : l.length ≤ 10) : ∀ (d i k : Nat), 7 * l.length - i = d → d + 1 ≤ k → (∀ j, i ≤ j → j < 7 * l.length → (valN l).testBit j = below) →
    ∃ k', k - d - 1 ≤ k' ∧ mandrelref01_TakeS.l0 k l ((7 * l.length : Nat) : Int) below (i : Int) = mandrelref01_TakeS.l1 k' l ((7 * l.length : Nat) : Int) below 0 63 := by
  intro d
  induction d with
  | zero =>
    intro i k hd hk hs
    obtain ⟨k, rfl⟩ : ∃ m, k = m + 1 := ⟨k - 1, by omega⟩
    simp only [mandrelref01_TakeS.l0]
    rw [if_neg (by omega)]
    exact ⟨k, by omega, rfl⟩
  | succ d ih =>
    intro i k hd hk hs
    obtain ⟨k, rfl⟩ : ∃ m, k = m + 1 := ⟨k - 1, by omega⟩
    have b1 : i < 7 * l.length := by omega
    have e8 : wrap64 ((i : Int) + 1) = ((i + 1 : Nat) : Int) := by rw [w64_in (by omega) (by omega)]; omega
    obtain ⟨k', h1, h2⟩ := ih (i + 1) k (by omega) (by omega) (fun j h3 h4 => hs j (by omega) h4)
    refine ⟨k', by omega, ?_⟩
    rw [← h2]
    simp only [mandrelref01_TakeS.l0]
    rw [if_pos (by omega), ref_bit l i hl b1 (by omega), hs i (Nat.le_refl _) b1]
    simp only [Option.bind_some]
    rw [if_neg (by simp), e8]
theorem refS_other (l : List Int) (below : Bool) (hl : ∀ x ∈ l, 0 ≤ x ∧ x < 128) (hll : l.length ≤ 10) : ∀ (d i k : Nat), 7 * l.length - i = d → d + 1 ≤ k → (∃ j, i ≤ j ∧ j < 7 * l.length ∧ (valN l).testBit j ≠ below) →
    mandrelref01_TakeS.l0 k l ((7 * l.length : Nat) : Int) below (i : Int) = some (0, 0, 6) := by
  intro d
  induction d with
  | zero =>
    intro i k hd hk ⟨j, h1, h2, _⟩
    omega
  | succ d ih =>
    intro i k hd hk ⟨j, h1, h2, h3⟩
    obtain ⟨k, rfl⟩ : ∃ m, k = m + 1 := ⟨k - 1, by omega⟩
    have b1 : i < 7 * l.length := by omega
    have e8 : wrap64 ((i : Int) + 1) = ((i + 1 : Nat) : Int) := by rw [w64_in (by omega) (by omega)]; omega
    have hrb := ref_bit l i hl b1 (by omega)
    have hlt : (i : Int) < ((7 * l.length : Nat) : Int) := by omega
    simp only [mandrelref01_TakeS.l0]
    rw [if_pos hlt, hrb]
    simp only [Option.bind_some]
    by_cases hb : (valN l).testBit i = below
    · rw [if_neg (by rw [hb]; simp), e8]
      exact ih (i + 1) k (by omega) (by omega) ⟨j, by
        apply Nat.lt_of_le_of_ne h1
        intro h4
        rw [h4] at hb
        exact h3 hb, h2, h3⟩
    · rw [if_pos (by simpa using hb)]
/-- The 64 bits that are told: those of the groups, and above them the sign. -/
def low64 (l : List Int) (below : Bool) : Nat := if 64 ≤ 7 * l.length then valN l % 2 ^ 64 else if below then 2 ^ (7 * l.length) * (2 ^ (64 - 7 * l.length) - 1) + valN l else valN l
theorem low64_bit (l : List Int) (below : Bool) (j : Nat) (hj : j < 64) : (low64 l below).testBit j = if j < 7 * l.length then (valN l).testBit j else below := by
  have hlt := valN_lt l
  unfold low64
  split
  · rw [Nat.testBit_mod_two_pow, if_pos (by omega)]
    simp [hj]
  · split
    · rename_i h
      rw [Nat.testBit_two_pow_mul_add _ hlt]
      split
      · rfl
      · rw [Nat.testBit_two_pow_sub_one, h]
        simp
        omega
    · rename_i h
      split
      · rfl
      · rw [Nat.testBit_lt_two_pow (Nat.lt_of_lt_of_le hlt (Nat.pow_le_pow_right (by decide) (by omega)))]
        cases below
        · rfl
        · exact absurd rfl h
theorem low64_lt (l : List Int) (below : Bool) : low64 l below < 2 ^ 64 := by
  have hlt := valN_lt l
  unfold low64
  split
  · exact Nat.mod_lt _ (by decide)
  · rename_i h
    have hp : 2 ^ 64 = 2 ^ (7 * l.length) * 2 ^ (64 - 7 * l.length) := by rw [← Nat.pow_add]; congr 1; omega
    have h1 : 0 < 2 ^ (64 - 7 * l.length) := Nat.pow_pos (by decide)
    rw [hp]
    split
    · rw [Nat.mul_sub, Nat.mul_one]
      have := Nat.le_mul_of_pos_right (2 ^ (7 * l.length)) h1
      omega
    · exact Nat.lt_of_lt_of_le hlt (Nat.le_mul_of_pos_right _ h1)
theorem half_bit (t i : Nat) : t / 2 ^ i = 2 * (t / 2 ^ (i + 1)) + (t.testBit i).toNat := by
  rw [Nat.pow_succ, ← Nat.div_div_eq_div_mul, Nat.testBit_eq_decide_div_mod_eq]
  generalize t / 2 ^ i = q
  have : q % 2 = 0 ∨ q % 2 = 1 := by omega
  rcases this with h | h <;> rw [h] <;> simp <;> omega
theorem w2 (x : Int) : wrap64 (wrap64 (2 * wrap64 x) + 1) = wrap64 (2 * x + 1) := by unfold wrap64; omega
theorem w2' (x : Int) : wrap64 (2 * wrap64 x) = wrap64 (2 * x) := by unfold wrap64; omega
theorem refS_l1 (l : List Int) (below : Bool) (hl : ∀ x ∈ l, 0 ≤ x ∧ x < 128) (_ : l.length ≤ 10) : ∀ (i k : Nat), i ≤ 64 → i + 1 ≤ k →
    mandrelref01_TakeS.l1 k l ((7 * l.length : Nat) : Int) below (wrap64 ((low64 l below / 2 ^ i : Nat) : Int)) ((i : Int) - 1) = some (wrap64 ((low64 l below : Nat) : Int), (l.length : Int), 0) := by
  intro i
  induction i with
  | zero =>
    intro k _ hk
    obtain ⟨k, rfl⟩ : ∃ m, k = m + 1 := ⟨k - 1, by omega⟩
    simp only [mandrelref01_TakeS.l1]
    rw [if_neg (by omega), Nat.pow_zero, Nat.div_one]
  | succ i ih =>
    intro k hi hk
    obtain ⟨k, rfl⟩ : ∃ m, k = m + 1 := ⟨k - 1, by omega⟩
    have e1 : ((i + 1 : Nat) : Int) - 1 = (i : Int) := by omega
    have e2 : wrap64 ((i : Int) - 1) = (i : Int) - 1 := w64_in (by omega) (by omega)
    have ih2 := ih k (by omega) (by omega)
    have hb := low64_bit l below i (by omega)
    have hh := half_bit (low64 l below) i
    rw [hb] at hh
    rw [e1]
    have c0 : (i : Int) ≥ 0 := by omega
    have c1 : (i < 7 * l.length) → (i : Int) < ((7 * l.length : Nat) : Int) := by omega
    have c2 : ¬ (i < 7 * l.length) → ¬ (i : Int) < ((7 * l.length : Nat) : Int) := by omega
    have c3 : ¬ (i < 7 * l.length) → (i : Int) ≥ ((7 * l.length : Nat) : Int) := by omega
    have c4 : (i < 7 * l.length) → ¬ (i : Int) ≥ ((7 * l.length : Nat) : Int) := by omega
    have c5 : i < 4611686018427387904 := by omega
    generalize low64 l below / 2 ^ (i + 1) = q at *
    have one : wrap64 (wrap64 (2 * wrap64 (q : Int)) + 1) = wrap64 ((2 * q + 1 : Nat) : Int) := by rw [w2]; congr 1
    have nul : wrap64 (2 * wrap64 (q : Int)) = wrap64 ((2 * q + 0 : Nat) : Int) := by rw [w2']; congr 1
    simp only [mandrelref01_TakeS.l1]
    rw [if_pos c0, e2]
    by_cases h : i < 7 * l.length
    · rw [if_pos (c1 h), ref_bit l i hl h c5]
      rw [if_pos h] at hh
      simp only [Option.bind_some]
      cases ht : (valN l).testBit i with
      | true =>
        rw [ht] at hh
        rw [if_pos rfl, one]
        rw [hh] at ih2
        exact ih2
      | false =>
        rw [ht] at hh
        rw [if_neg (by simp), if_neg (c4 h), nul]
        rw [hh] at ih2
        exact ih2
    · rw [if_neg (c2 h), if_pos (c3 h)]
      rw [if_neg h] at hh
      cases below with
      | true =>
        rw [if_pos rfl, one]
        rw [hh] at ih2
        exact ih2
      | false =>
        rw [if_neg (by simp), nul]
        rw [hh] at ih2
        exact ih2
theorem low64_sign (l : List Int) (below : Bool) : wrap64 ((low64 l below : Nat) : Int) = wrap64 ((valN l : Int) - (if below then (128 : Int) ^ l.length else 0)) := by
  have e128 : ((128 : Int) ^ l.length) = ((2 ^ (7 * l.length) : Nat) : Int) := by rw [← pow7]; simp
  rw [e128]
  unfold low64
  split
  · rename_i h
    obtain ⟨m, hm⟩ : ∃ m, 2 ^ (7 * l.length) = 18446744073709551616 * m := ⟨2 ^ (7 * l.length - 64), by rw [show (18446744073709551616 : Nat) = 2 ^ 64 by rfl, ← Nat.pow_add]; congr 1; omega⟩
    rw [hm, show (2 : Nat) ^ 64 = 18446744073709551616 by rfl]
    generalize valN l = v
    unfold wrap64
    split <;> omega
  · rename_i h
    split
    · rename_i hb
      have hp : 2 ^ (7 * l.length) * 2 ^ (64 - 7 * l.length) = 18446744073709551616 := by rw [← Nat.pow_add, show 7 * l.length + (64 - 7 * l.length) = 64 by omega]
      rw [Nat.mul_sub, Nat.mul_one, hp]
      have hle : 2 ^ (7 * l.length) ≤ 18446744073709551616 := by rw [← hp]; exact Nat.le_mul_of_pos_right _ (Nat.pow_pos (by decide))
      generalize 2 ^ (7 * l.length) = p at *
      generalize valN l = v
      unfold wrap64
      omega
    · unfold wrap64; omega
theorem top_fin : ∀ (q : Fin 128) (r : Fin 7), ((((q.val * 2 : Nat) : Int) % 256 + 128) % 256 / 2 - 64) / 2 ^ r.val = 0 ∨ ((((q.val * 2 : Nat) : Int) % 256 + 128) % 256 / 2 - 64) / 2 ^ r.val = -1 ↔ ∀ j : Fin 7, r.val ≤ j.val → q.val.testBit j.val = q.val.testBit 6 := by decide +kernel
theorem refS_take (b : List Int) (w k : Nat) (h0 : 1 ≤ w) (h1 : w ≤ 64) (hx : ∀ x ∈ b, 0 ≤ x ∧ x < 256) (hk : 200 ≤ k) : mandrelref01_TakeS.f k b (w : Int) = some (told (takeSOf b w)) := by
  unfold mandrelref01_TakeS.f takeSOf
  rw [group_f b w k h0 h1 hx (by omega)]
  simp only [Option.bind_some]
  by_cases h : firstSmall b < b.length ∧ firstSmall b < (w + 6) / 7
  · rw [if_pos h, if_pos h]
    simp only [if_true]
    obtain ⟨n, hn⟩ : ∃ n, firstSmall b = n := ⟨_, rfl⟩
    rw [hn] at h ⊢
    have hgl := grp_length b (n + 1) (by omega)
    have hgb := grp_bytes b (n + 1)
    have hv := valN_grp b (n + 1)
    have hat := firstSmall_at b (by omega)
    rw [hn] at hat
    have hge : 0 ≤ b.getD n 0 := by
      rw [List.getD_eq_getElem?_getD, List.getElem?_eq_getElem h.1]
      exact (hx _ (List.getElem_mem h.1)).1
    obtain ⟨q, hq⟩ : ∃ q : Nat, b.getD n 0 = (q : Int) := ⟨(b.getD n 0).toNat, by omega⟩
    have hq2 : q < 128 := by omega
    have hbit : ∀ j : Nat, j < 7 → (valN (grp b (n + 1))).testBit (7 * n + j) = q.testBit j := by
      intro j hj
      rw [hv, valN_bit, show (7 * n + j) / 7 = n by omega, show (7 * n + j) % 7 = j by omega]
      have e : (b.take (n + 1)).getD n 0 = b.getD n 0 := by simp [List.getD]
      rw [e, hq, show ((q : Int) % 128).toNat = q by omega]
    have hbelow := hbit 6 (by omega)
    have e1 : wrap64 (7 * ((grp b (n + 1)).length : Int)) = ((7 * (grp b (n + 1)).length : Nat) : Int) := by rw [hgl, w64_in (by omega) (by omega)]; omega
    have e2 : wrap64 (((7 * (grp b (n + 1)).length : Nat) : Int) - 1) = ((7 * n + 6 : Nat) : Int) := by rw [hgl, w64_in (by omega) (by omega)]; omega
    have e3 : wrap64 ((w : Int) - 1) = ((w - 1 : Nat) : Int) := by rw [w64_in (by omega) (by omega)]; omega
    rw [e1, e2, e3, ref_bit _ _ hgb (by omega) (by omega), hbelow]
    simp only [Option.bind_some]
    have e5 : b.getD n 0 / 64 % 2 = 0 ↔ q.testBit 6 = false := by
      rw [hq, Nat.testBit_eq_decide_div_mod_eq]
      simp
      omega
    have hval : wrap64 (valU (b.take (n + 1)) - (if b.getD n 0 / 64 % 2 = 0 then 0 else 128 ^ (n + 1))) = wrap64 ((low64 (grp b (n + 1)) (q.testBit 6) : Nat) : Int) := by
      rw [low64_sign, hgl, hv, valN_eq]
      cases h6 : q.testBit 6 with
      | false => rw [if_pos (e5.2 h6), if_neg (by simp)]
      | true => rw [if_neg (by rw [e5, h6]; simp), if_pos rfl]
    unfold endS
    rw [show n + 1 - 1 = n by omega, hval]
    have etop : topS b (n + 1) = (((q * 2 : Nat) : Int) % 256 + 128) % 256 / 2 - 64 := by
      unfold topS
      rw [show n + 1 - 1 = n by omega, hq]
      omega
    rw [etop]
    by_cases hw : w < 7 * (n + 1)
    · have hfin := top_fin ⟨q, hq2⟩ ⟨w - 7 * n - 1, by omega⟩
      simp only at hfin
      by_cases hc : (((((q * 2 : Nat) : Int) % 256 + 128) % 256 / 2 - 64) / 2 ^ (w - 7 * n - 1) = 0 ∨ ((((q * 2 : Nat) : Int) % 256 + 128) % 256 / 2 - 64) / 2 ^ (w - 7 * n - 1) = -1)
      · rw [if_neg (fun h3 => h3.2 hc)]
        have hall := hfin.1 hc
        obtain ⟨k', hk', hs⟩ := refS_same (grp b (n + 1)) (q.testBit 6) hgb (by omega) (7 * (grp b (n + 1)).length - (w - 1)) (w - 1) k rfl (by omega) (fun j hj1 hj2 => by
          have := hall ⟨j - 7 * n, by omega⟩ (by simp only; omega)
          rw [← hbit (j - 7 * n) (by omega), show 7 * n + (j - 7 * n) = j by omega] at this
          exact this)
        rw [hs]
        have hl1 := refS_l1 (grp b (n + 1)) (q.testBit 6) hgb (by omega) 64 k' (by omega) (by omega)
        rw [Nat.div_eq_of_lt (low64_lt _ _), w64_in (x := ((0 : Nat) : Int)) (by omega) (by omega)] at hl1
        refine hl1.trans ?_
        rw [hgl]
        rfl
      · rw [if_pos ⟨hw, hc⟩]
        have hnot : ∃ j : Fin 7, (w - 7 * n - 1) ≤ j.val ∧ q.testBit j.val ≠ q.testBit 6 := by
          apply Classical.byContradiction
          intro hno
          apply hc
          apply hfin.2
          intro j hj
          apply Classical.byContradiction
          intro hne
          exact hno ⟨j, hj, hne⟩
        obtain ⟨j, hj1, hj2⟩ := hnot
        have := j.isLt
        rw [refS_other (grp b (n + 1)) (q.testBit 6) hgb (by omega) (7 * (grp b (n + 1)).length - (w - 1)) (w - 1) k rfl (by omega) ⟨7 * n + j.val, by omega, by omega, by rw [hbit j.val (by omega)]; exact hj2⟩]
        rfl
    · rw [if_neg (fun h3 => hw h3.1)]
      obtain ⟨k', hk', hs⟩ := refS_same (grp b (n + 1)) (q.testBit 6) hgb (by omega) (7 * (grp b (n + 1)).length - (w - 1)) (w - 1) k rfl (by omega) (fun j hj1 hj2 => by
        rw [show j = 7 * n + 6 by omega]
        exact hbelow)
      rw [hs]
      have hl1 := refS_l1 (grp b (n + 1)) (q.testBit 6) hgb (by omega) 64 k' (by omega) (by omega)
      rw [Nat.div_eq_of_lt (low64_lt _ _), w64_in (x := ((0 : Nat) : Int)) (by omega) (by omega)] at hl1
      refine hl1.trans ?_
      rw [hgl]
      rfl
  · rw [if_neg h, if_neg h]
    simp only
    split <;> simp [told]
theorem refS_bad (b : List Int) (w : Int) (k : Nat) (h : w < 1 ∨ 64 < w) (hk : 1 ≤ k) : mandrelref01_TakeS.f k b w = some (0, 0, 1) := by
  unfold mandrelref01_TakeS.f
  rw [group_bad b w k h hk]
  rfl
end Go.Proofs.YtljmikfpknmnnaaDoor.Leb
