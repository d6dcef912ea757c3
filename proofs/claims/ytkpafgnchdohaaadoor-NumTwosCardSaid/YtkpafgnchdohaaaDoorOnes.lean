/- How many ones stand in a word: the counting by parts, and what it counts. Plain arithmetic, then the printed form. -/
import Derived.Test.YtkpafgnchdohaaaDoorNum

namespace Go.Proofs.YtkpafgnchdohaaaDoor.Num
open Go Go.RowKit Go.Proofs.YtkpafgnchdohaaaDoor.XN Go.Proofs.YtkpafgnchdohaaaDoorW.PrintWords Go.Proofs.YtkpafgnchdohaaaDoorW.PrintLast Go.Proofs.YtkpafgnchdohaaaDoorW.PrintMore

/-- The ones in the first so many places. -/
def ones : Nat → Nat → Nat
  | 0, _ => 0
  | f + 1, x => x % 2 + ones f (x / 2)
theorem ones_add : ∀ (r f a b : Nat), b < 2 ^ r → ones (r + f) (2 ^ r * a + b) = ones r b + ones f a
  | 0, f, a, b, h => by
    have : b = 0 := by simpa using h
    subst this
    simp [ones]
  | r + 1, f, a, b, h => by
    rw [show r + 1 + f = (r + f) + 1 by omega]
    simp only [ones]
    rw [Nat.pow_succ] at h ⊢
    have e1 : (2 ^ r * 2 * a + b) % 2 = b % 2 := by rw [show 2 ^ r * 2 * a = 2 * (2 ^ r * a) by rw [Nat.mul_comm (2 ^ r) 2, Nat.mul_assoc]]; omega
    have e2 : (2 ^ r * 2 * a + b) / 2 = 2 ^ r * a + b / 2 := by rw [show 2 ^ r * 2 * a = 2 * (2 ^ r * a) by rw [Nat.mul_comm (2 ^ r) 2, Nat.mul_assoc]]; omega
    rw [e1, e2, ones_add r f a (b / 2) (by omega)]
    omega
theorem ones_zero : ∀ f, ones f 0 = 0
  | 0 => rfl
  | f + 1 => by simp [ones, ones_zero f]
theorem ones_more (r f x : Nat) (h : x < 2 ^ r) : ones (r + f) x = ones r x := by
  have := ones_add r f 0 x h
  rw [Nat.mul_zero, Nat.zero_add, ones_zero] at this
  exact this
theorem and_split (a b c d : Nat) (hb : b < 256) (hd : d < 256) : (256 * a + b) &&& (256 * c + d) = 256 * (a &&& c) + (b &&& d) := by
  apply Nat.eq_of_testBit_eq
  intro j
  have hbd : b &&& d < 2 ^ 8 := Nat.and_lt_two_pow _ hd
  rw [show (256 : Nat) = 2 ^ 8 by rfl, Nat.testBit_and, Nat.testBit_two_pow_mul_add _ hb, Nat.testBit_two_pow_mul_add _ hd, Nat.testBit_two_pow_mul_add _ hbd]
  split
  · rw [Nat.testBit_and]
  · rw [Nat.testBit_and]
/-- A byte, so many times. -/
def mask (m : Nat) : Nat → Nat
  | 0 => 0
  | f + 1 => 256 * mask m f + m
def q1 (f x : Nat) : Nat := (x / 2 &&& mask 85 f) + (x &&& mask 85 f)
def q2 (f x : Nat) : Nat := (x / 4 &&& mask 51 f) + (x &&& mask 51 f)
def q3 (f x : Nat) : Nat := (x / 16 + x) &&& mask 15 f
def p1 (b : Nat) : Nat := (b / 2 &&& 85) + (b &&& 85)
def p2 (b : Nat) : Nat := (b / 4 &&& 51) + (b &&& 51)
theorem p1_fin : ∀ (b : Fin 256) (t : Fin 2), (b.val / 2 + 128 * t.val) &&& 85 = b.val / 2 &&& 85 := by decide +kernel
theorem p2_fin : ∀ (b : Fin 256) (t : Fin 4), (b.val / 4 + 64 * t.val) &&& 51 = b.val / 4 &&& 51 := by decide +kernel
theorem p12_fin : ∀ b : Fin 256, p1 b.val < 256 ∧ p2 (p1 b.val) < 256 ∧ p2 (p1 b.val) % 16 ≤ 4 ∧ p2 (p1 b.val) / 16 ≤ 4 ∧ p2 (p1 b.val) / 16 + p2 (p1 b.val) % 16 = ones 8 b.val ∧ ones 8 b.val ≤ 8 := by decide +kernel
theorem q1_succ (f x : Nat) : q1 (f + 1) x = 256 * q1 f (x / 256) + p1 (x % 256) := by
  have h := p1_fin ⟨x % 256, by omega⟩ ⟨x / 256 % 2, by omega⟩
  simp only at h
  unfold q1 p1
  simp only [mask]
  have e1 : x / 2 = 256 * (x / 256 / 2) + (x % 256 / 2 + 128 * (x / 256 % 2)) := by omega
  rw [e1, and_split _ _ _ _ (by omega) (by omega), h]
  conv => lhs; rhs; rw [show x = 256 * (x / 256) + x % 256 by omega]
  rw [and_split _ _ _ _ (by omega) (by omega)]
  omega
theorem q2_succ (f x : Nat) : q2 (f + 1) x = 256 * q2 f (x / 256) + p2 (x % 256) := by
  have h := p2_fin ⟨x % 256, by omega⟩ ⟨x / 256 % 4, by omega⟩
  simp only at h
  unfold q2 p2
  simp only [mask]
  have e1 : x / 4 = 256 * (x / 256 / 4) + (x % 256 / 4 + 64 * (x / 256 % 4)) := by omega
  rw [e1, and_split _ _ _ _ (by omega) (by omega), h]
  conv => lhs; rhs; rw [show x = 256 * (x / 256) + x % 256 by omega]
  rw [and_split _ _ _ _ (by omega) (by omega)]
  omega
theorem q12_succ (f x : Nat) : q2 (f + 1) (q1 (f + 1) x) = 256 * q2 f (q1 f (x / 256)) + p2 (p1 (x % 256)) := by
  have h := p12_fin ⟨x % 256, by omega⟩
  simp only at h
  rw [q2_succ, q1_succ, show (256 * q1 f (x / 256) + p1 (x % 256)) / 256 = q1 f (x / 256) by omega, show (256 * q1 f (x / 256) + p1 (x % 256)) % 256 = p1 (x % 256) by omega]
theorem q12_low (f x : Nat) : q2 f (q1 f x) % 16 ≤ 4 := by
  cases f with
  | zero => simp [q2, mask]
  | succ f =>
    have h := p12_fin ⟨x % 256, by omega⟩
    simp only at h
    rw [q12_succ]
    omega
def cnt (f x : Nat) : Nat := q3 f (q2 f (q1 f x))
theorem cnt_succ (f x : Nat) : cnt (f + 1) x = 256 * cnt f (x / 256) + ones 8 (x % 256) := by
  have h := p12_fin ⟨x % 256, by omega⟩
  simp only at h
  have hl := q12_low f (x / 256)
  unfold cnt
  rw [q12_succ]
  generalize q2 f (q1 f (x / 256)) = z at *
  generalize p2 (p1 (x % 256)) = u at *
  unfold q3
  simp only [mask]
  have e1 : (256 * z + u) / 16 + (256 * z + u) = 256 * (z / 16 + z) + (u / 16 + u + 16 * (z % 16)) := by omega
  rw [e1, and_split _ _ _ _ (by omega) (by omega)]
  have e2 : u / 16 + u + 16 * (z % 16) &&& 15 = (u / 16 + u + 16 * (z % 16)) % 16 := Nat.and_two_pow_sub_one_eq_mod _ 4
  rw [e2]
  omega
theorem cnt8 (x : Nat) : ∃ c0 c1 c2 c3 c4 c5 c6 c7, c0 ≤ 8 ∧ c1 ≤ 8 ∧ c2 ≤ 8 ∧ c3 ≤ 8 ∧ c4 ≤ 8 ∧ c5 ≤ 8 ∧ c6 ≤ 8 ∧ c7 ≤ 8 ∧
    cnt 8 x = 256 * (256 * (256 * (256 * (256 * (256 * (256 * c7 + c6) + c5) + c4) + c3) + c2) + c1) + c0 ∧ ones 64 x = c0 + c1 + c2 + c3 + c4 + c5 + c6 + c7 := by
  have hc : ∀ y : Nat, ones 8 (y % 256) ≤ 8 := fun y => (p12_fin ⟨y % 256, by omega⟩).2.2.2.2.2
  have ho : ∀ f y : Nat, ones (8 + f) y = ones 8 (y % 256) + ones f (y / 256) := by
    intro f y
    have := ones_add 8 f (y / 256) (y % 256) (by omega)
    rw [show 2 ^ 8 * (y / 256) + y % 256 = y by omega] at this
    exact this
  refine ⟨_, _, _, _, _, _, _, _, hc x, hc (x / 256), hc (x / 256 / 256), hc (x / 256 / 256 / 256), hc (x / 256 / 256 / 256 / 256), hc (x / 256 / 256 / 256 / 256 / 256), hc (x / 256 / 256 / 256 / 256 / 256 / 256), hc (x / 256 / 256 / 256 / 256 / 256 / 256 / 256), ?_, ?_⟩
  · rw [cnt_succ 7, cnt_succ 6, cnt_succ 5, cnt_succ 4, cnt_succ 3, cnt_succ 2, cnt_succ 1, cnt_succ 0]
    have e : ∀ y, cnt 0 y = 0 := by intro y; simp [cnt, q3, mask]
    rw [e, Nat.mul_zero, Nat.zero_add]
  · have h := ho 56 x
    have h1 := ho 48 (x / 256)
    have h2 := ho 40 (x / 256 / 256)
    have h3 := ho 32 (x / 256 / 256 / 256)
    have h4 := ho 24 (x / 256 / 256 / 256 / 256)
    have h5 := ho 16 (x / 256 / 256 / 256 / 256 / 256)
    have h6 := ho 8 (x / 256 / 256 / 256 / 256 / 256 / 256)
    have h7 := ho 0 (x / 256 / 256 / 256 / 256 / 256 / 256 / 256)
    have h8 : ones 0 (x / 256 / 256 / 256 / 256 / 256 / 256 / 256 / 256) = 0 := rfl
    simp only [Nat.reduceAdd] at h h1 h2 h3 h4 h5 h6 h7
    rw [h, h1, h2, h3, h4, h5, h6, h7, h8]
    simp only [Nat.add_assoc, Nat.add_zero]
theorem wrapn (n : Nat) (h : n < 18446744073709551616) : IntKind.u64.wrap (n : Int) = (n : Int) := by rw [u64w]; omega
theorem mask85 : mask 85 8 = 6148914691236517205 := by decide +kernel
theorem mask51 : mask 51 8 = 3689348814741910323 := by decide +kernel
theorem mask15 : mask 15 8 = 1085102592571150095 := by decide +kernel
theorem q1_bound (x : Nat) : (x / 2 &&& mask 85 8) ≤ 6148914691236517205 ∧ (x &&& mask 85 8) ≤ 6148914691236517205 := by rw [mask85]; exact ⟨Nat.and_le_right, Nat.and_le_right⟩
theorem q2_bound (x : Nat) : (x / 4 &&& mask 51 8) ≤ 3689348814741910323 ∧ (x &&& mask 51 8) ≤ 3689348814741910323 := by rw [mask51]; exact ⟨Nat.and_le_right, Nat.and_le_right⟩
theorem s1 (c0 c1 c2 c3 c4 c5 c6 c7 : Nat) (h : c0 ≤ 8 ∧ c1 ≤ 8 ∧ c2 ≤ 8 ∧ c3 ≤ 8 ∧ c4 ≤ 8 ∧ c5 ≤ 8 ∧ c6 ≤ 8 ∧ c7 ≤ 8) (c : Nat)
    (hc : c = 256 * (256 * (256 * (256 * (256 * (256 * (256 * c7 + c6) + c5) + c4) + c3) + c2) + c1) + c0) : c < 650000000000000000 ∧ c / 256 + c = 256 * (256 * (256 * (256 * (256 * (256 * (256 * c7 + (c6 + c7)) + (c5 + c6)) + (c4 + c5)) + (c3 + c4)) + (c2 + c3)) + (c1 + c2)) + (c0 + c1) := by omega
theorem s2 (c0 c1 c2 c3 c4 c5 c6 c7 : Nat) (h : c0 ≤ 16 ∧ c1 ≤ 16 ∧ c2 ≤ 16 ∧ c3 ≤ 16 ∧ c4 ≤ 16 ∧ c5 ≤ 16 ∧ c6 ≤ 16 ∧ c7 ≤ 16) (c : Nat)
    (hc : c = 256 * (256 * (256 * (256 * (256 * (256 * (256 * c7 + c6) + c5) + c4) + c3) + c2) + c1) + c0) : c < 1300000000000000000 ∧ c / 65536 + c = 256 * (256 * (256 * (256 * (256 * (256 * (256 * c7 + c6) + (c5 + c7)) + (c4 + c6)) + (c3 + c5)) + (c2 + c4)) + (c1 + c3)) + (c0 + c2) := by omega
theorem s3 (c0 c1 c2 c3 c4 c5 c6 c7 : Nat) (h : c0 ≤ 32 ∧ c1 ≤ 32 ∧ c2 ≤ 32 ∧ c3 ≤ 32 ∧ c4 ≤ 32 ∧ c5 ≤ 32 ∧ c6 ≤ 32 ∧ c7 ≤ 32) (c : Nat)
    (hc : c = 256 * (256 * (256 * (256 * (256 * (256 * (256 * c7 + c6) + c5) + c4) + c3) + c2) + c1) + c0) : c < 2600000000000000000 ∧ c / 4294967296 + c < 5200000000000000000 ∧ (c / 4294967296 + c) % 128 = c0 + c4 := by
  have h1 : c / 4294967296 = 256 * (256 * (256 * c7 + c6) + c5) + c4 := by omega
  omega
theorem b1 (c0 c1 c2 c3 c4 c5 c6 c7 : Nat) (h : c0 ≤ 8 ∧ c1 ≤ 8 ∧ c2 ≤ 8 ∧ c3 ≤ 8 ∧ c4 ≤ 8 ∧ c5 ≤ 8 ∧ c6 ≤ 8 ∧ c7 ≤ 8) :
    (c0 + c1 ≤ 16 ∧ c1 + c2 ≤ 16 ∧ c2 + c3 ≤ 16 ∧ c3 + c4 ≤ 16 ∧ c4 + c5 ≤ 16 ∧ c5 + c6 ≤ 16 ∧ c6 + c7 ≤ 16 ∧ c7 ≤ 16) ∧
    (c0 + c1 + (c2 + c3) ≤ 32 ∧ c1 + c2 + (c3 + c4) ≤ 32 ∧ c2 + c3 + (c4 + c5) ≤ 32 ∧ c3 + c4 + (c5 + c6) ≤ 32 ∧ c4 + c5 + (c6 + c7) ≤ 32 ∧ c5 + c6 + c7 ≤ 32 ∧ c6 + c7 ≤ 32 ∧ c7 ≤ 32) := by omega
theorem sums (x c : Nat) (hc : c = cnt 8 x) : c < 650000000000000000 ∧ c / 256 + c < 1300000000000000000 ∧ (c / 256 + c) / 65536 + (c / 256 + c) < 2600000000000000000 ∧
    ((c / 256 + c) / 65536 + (c / 256 + c)) / 4294967296 + ((c / 256 + c) / 65536 + (c / 256 + c)) < 5200000000000000000 ∧ (((c / 256 + c) / 65536 + (c / 256 + c)) / 4294967296 + ((c / 256 + c) / 65536 + (c / 256 + c))) % 128 = ones 64 x := by
  obtain ⟨c0, c1, c2, c3, c4, c5, c6, c7, h0, h1, h2, h3, h4, h5, h6, h7, e, ho⟩ := cnt8 x
  have hb := b1 c0 c1 c2 c3 c4 c5 c6 c7 ⟨h0, h1, h2, h3, h4, h5, h6, h7⟩
  have g1 := s1 c0 c1 c2 c3 c4 c5 c6 c7 ⟨h0, h1, h2, h3, h4, h5, h6, h7⟩ c (hc.trans e)
  have g2 := s2 (c0 + c1) (c1 + c2) (c2 + c3) (c3 + c4) (c4 + c5) (c5 + c6) (c6 + c7) c7 hb.1 (c / 256 + c) g1.2
  have g3 := s3 (c0 + c1 + (c2 + c3)) (c1 + c2 + (c3 + c4)) (c2 + c3 + (c4 + c5)) (c3 + c4 + (c5 + c6)) (c4 + c5 + (c6 + c7)) (c5 + c6 + c7) (c6 + c7) c7 hb.2 ((c / 256 + c) / 65536 + (c / 256 + c)) g2.2
  refine ⟨g1.1, g2.1, g3.1, g3.2.1, g3.2.2.trans ?_⟩
  rw [ho]
  clear g1 g2 g3 e ho hb hc
  omega
theorem and127 (n : Nat) (h : n < 5200000000000000000) : Go.bits .and .i64 (wrap64 (n : Int)) 127 = ((n % 128 : Nat) : Int) := by
  rw [w64_in (by omega) (by omega)]
  show IntKind.i64.wrap ((BitVec.ofInt 64 (n : Int) &&& BitVec.ofInt 64 127).toNat : Int) = _
  have e1 : (BitVec.ofInt 64 (n : Int)).toNat = n := by rw [BitVec.toNat_ofInt]; omega
  have e2 : (BitVec.ofInt 64 127).toNat = 127 := by decide
  have e3 : n &&& 127 = n % 128 := Nat.and_two_pow_sub_one_eq_mod n 7
  rw [BitVec.toNat_and, e1, e2, e3, IntKind.wrap_i64]
  omega
theorem OnesCount (x : Nat) (hx : x < 18446744073709551616) : bits_OnesCount64.f (x : Int) = some (ones 64 x : Int) := by
  unfold bits_OnesCount64.f
  have a1 : IntKind.u64.wrap (Go.bits .and .u64 ((x : Int) / 2) 6148914691236517205 + Go.bits .and .u64 (x : Int) 6148914691236517205) = (q1 8 x : Int) := by
    have b := q1_bound x
    have g1 := bits_and_u64_nat (x / 2) 6148914691236517205 (by omega) (by omega)
    have g2 := bits_and_u64_nat x 6148914691236517205 hx (by omega)
    rw [← mask85] at g1 g2
    have g1' : Go.bits .and .u64 ((x : Int) / 2) 6148914691236517205 = ((x / 2 &&& mask 85 8 : Nat) : Int) := by rw [← g1, mask85]; rfl
    have g2' : Go.bits .and .u64 (x : Int) 6148914691236517205 = ((x &&& mask 85 8 : Nat) : Int) := by rw [← g2, mask85]; rfl
    rw [g1', g2', ← Int.natCast_add, wrapn _ (by omega)]
    rfl
  have b1 : q1 8 x < 18446744073709551616 := by have b := q1_bound x; unfold q1; omega
  rw [a1]
  have a2 : IntKind.u64.wrap (Go.bits .and .u64 ((q1 8 x : Int) / 4) 3689348814741910323 + Go.bits .and .u64 (q1 8 x : Int) 3689348814741910323) = (q2 8 (q1 8 x) : Int) := by
    have b := q2_bound (q1 8 x)
    generalize q1 8 x = y at *
    have g1 := bits_and_u64_nat (y / 4) 3689348814741910323 (by omega) (by omega)
    have g2 := bits_and_u64_nat y 3689348814741910323 b1 (by omega)
    rw [← mask51] at g1 g2
    have g1' : Go.bits .and .u64 ((y : Int) / 4) 3689348814741910323 = ((y / 4 &&& mask 51 8 : Nat) : Int) := by rw [← g1, mask51]; rfl
    have g2' : Go.bits .and .u64 (y : Int) 3689348814741910323 = ((y &&& mask 51 8 : Nat) : Int) := by rw [← g2, mask51]; rfl
    rw [g1', g2', ← Int.natCast_add, wrapn _ (by omega)]
    rfl
  have b2 : q2 8 (q1 8 x) ≤ 7378697629483820646 := by have b := q2_bound (q1 8 x); unfold q2; omega
  rw [a2]
  have a3 : Go.bits .and .u64 (IntKind.u64.wrap ((q2 8 (q1 8 x) : Int) / 16 + (q2 8 (q1 8 x) : Int))) 1085102592571150095 = (cnt 8 x : Int) := by
    unfold cnt
    generalize q2 8 (q1 8 x) = z at *
    have e : IntKind.u64.wrap ((z : Int) / 16 + (z : Int)) = ((z / 16 + z : Nat) : Int) := by rw [u64w]; omega
    have g := bits_and_u64_nat (z / 16 + z) 1085102592571150095 (by omega) (by omega)
    rw [e]
    unfold q3
    rw [mask15]
    exact g
  rw [a3]
  have hs := sums x (cnt 8 x) rfl
  generalize cnt 8 x = c at *
  obtain ⟨h1, h2, h3, h4, h5⟩ := hs
  have t1 : IntKind.u64.wrap ((c : Int) + (c : Int) / 256) = ((c / 256 + c : Nat) : Int) := by rw [u64w]; clear h3 h4 h5; omega
  rw [t1]
  generalize c / 256 + c = d at *
  clear t1 a3 h1 b2 a2 a1 b1
  have t2 : IntKind.u64.wrap ((d : Int) + (d : Int) / 65536) = ((d / 65536 + d : Nat) : Int) := by rw [u64w]; clear h4 h5; omega
  rw [t2]
  generalize d / 65536 + d = e at *
  clear t2 h2
  have t3 : IntKind.u64.wrap ((e : Int) + (e : Int) / 4294967296) = ((e / 4294967296 + e : Nat) : Int) := by rw [u64w]; clear h5; omega
  rw [t3, and127 _ h4, h5]
attribute [irreducible] ones
end Go.Proofs.YtkpafgnchdohaaaDoor.Num
