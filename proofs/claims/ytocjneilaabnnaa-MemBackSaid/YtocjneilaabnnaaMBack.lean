/- Layer 3: the law MemBack, walked, for each of the four sizes. Printed by a program of this session. -/
import Derived.Test.YtocjneilaabnnaaMSure
import Derived.Test.YtocjneilaabnnaaMParts
namespace Go.Proofs.Ytocjneilaabnnaa.M
open Go Go.RowKit Go.Proofs.YtocjneilaabnnaaW.PrintWords
set_option linter.unusedVariables false
set_option linter.unusedSimpArgs false
theorem new_ex (B n most : Nat) (w0 w : World) (hw : Below B w0 w) (hB : B ≤ w.heap.size) (hn : n ≤ most) (hm : most ≤ 16) :
    Calls Try.prog 6 #[.int .i64 n, .int .i64 most] w fun e w' => ∃ p b, e = .returned (.tuple #[.pointer (some ⟨p, 0, none⟩), .nilIface]) ∧ Below B w0 w' ∧ IsMem w' p b (4096 * n) (4096 * n) most (fun _ => 0) ∧ B ≤ b ∧ B ≤ p :=
  (new_yes n most w hn hm).mono fun e w' ⟨h1, h2, h3⟩ => ⟨_, _, h1, hw.trans (h2.mono hB), h3, hB, by omega⟩
theorem num_store (g : Nat → Int) (a n : Nat) (v : Int) (hv : 0 ≤ v) (z : Nat → Int) (h : ∀ j, j < n → z j = storeG g a n v (a + j)) : num z n = v % 256 ^ n := by
  rw [num_congr (z' := stb v) (fun j hj => by rw [h j hj, storeG_at _ _ _ _ _ (by omega), show a + j - a = j by omega]), num_stb v hv]
theorem bts0 (n : Nat) : Bts (fun _ => 0) n := fun _ _ => ⟨Int.le_refl 0, by show (0 : Int) < 256; decide⟩
theorem and255 (a : Int) (ha : 0 ≤ a) (h : a < 18446744073709551616) : bits .and .u64 a 255 = a % 256 := by
  obtain ⟨n, rfl⟩ := Int.eq_ofNat_of_zero_le ha
  have h2 := bits_and_u64_nat n 255 (by omega) (by omega)
  rw [show ((255 : Nat) : Int) = 255 from rfl] at h2
  rw [h2, show (255 : Nat) = 2 ^ 8 - 1 from rfl, Nat.and_two_pow_sub_one_eq_mod]
  omega
set_option maxHeartbeats 16000000 in
set_option maxRecDepth 100000 in
theorem back1 (x : Int) (A : Nat) (hA : x.tmod 8000 = (A : Int)) (hA2 : A < 8000) (y : Int) (hy : (IntKind.u64.wrap y).tmod 4 = 0) (v u : Int) (hv : 0 ≤ v ∧ v < 18446744073709551616) (hu : 0 ≤ u ∧ u < 18446744073709551616) (w : World) :
    Calls Try.prog 3 #[.int .u64 x, .int .i64 y, .agg #[.int .u64 v, .int .u64 u]] w fun e w' => e = .returned (.bool true) ∧ Below w.heap.size w w' := by
  have HV := Aside0.mk hv
  have HU := Aside0.mk hu
  have HS := Aside0.mk (new_ex w.heap.size 2 4 w (w.alloc (.cells #[.int .u64 v, .int .u64 u] 23)).drew (below_alloc (Below.refl _ _) _).drew (by simp) (by omega) (by omega))
  have c0 := cell_of_row (w.alloc (.cells #[.int .u64 v, .int .u64 u] 23)) w.heap.size 0 #[.int .u64 v, .int .u64 u] 23 (0, 0) (heap_alloc_new w _)
  have c1 := cell_of_row (w.alloc (.cells #[.int .u64 v, .int .u64 u] 23)) w.heap.size 1 #[.int .u64 v, .int .u64 u] 23 (0, 0) (heap_alloc_new w _)
  clear hv hu
  go_enter Try.func3, Try.ntmps3
  go_wp2
  go_region
  go_wp2_with (go_at_call 6; refine HS.out.mono ?_; clear HS; rintro e w1 ⟨p, b, rfl, B1, M1, hb, hp⟩; have X1 := Aside0.mk (And.intro B1 (And.intro M1 (And.intro hb hp))); clear B1 M1 hb hp)
  have S1 := Aside0.mk (store_yes w.heap.size p b 8192 8192 A 0 8 4 u _ _ X1.out.2.1 (by omega) (by omega) X1.out.2.2.1 HU.out)
  go_wp2_with (first
    | (go_at_call 7; refine S1.out.mono ?_; clear S1; rintro e w2 ⟨rfl, B2, M2⟩; have X2 := Aside0.mk (And.intro (X1.out.1.trans B2) M2); clear B2 M2)
    | (go_at_call 7; refine (store_yes w.heap.size p b 8192 8192 A 100 8 4 u _ _ X2.out.2 (by omega) (by omega) X1.out.2.2.1 HU.out).mono ?_; rintro e w3 ⟨rfl, B3, M3⟩; have X3 := Aside0.mk (And.intro (X2.out.1.trans B3) M3); clear X2 B3 M3)
    | (go_at_call 7; refine (store_yes w.heap.size p b 8192 8192 A 50 1 4 v _ _ X3.out.2 (by omega) (by omega) X1.out.2.2.1 HV.out).mono ?_; rintro e w4 ⟨rfl, B4, M4⟩; have X4 := Aside0.mk (And.intro (X3.out.1.trans B4) M4); clear X3 B4 M4)
    | (go_at_call 8; refine (grow_yes w.heap.size p b 8192 8192 2 4 2 _ _ X4.out.2 rfl (by omega) (by omega) X1.out.2.2.1 X1.out.2.2.2).mono ?_; rintro e w5 ⟨rfl, B5, b', cap', g', hb', M5, G1, G2⟩; have X5 := Aside0.mk (And.intro (X4.out.1.trans B5) (And.intro hb' (And.intro M5 (And.intro G1 G2)))); clear X4 B5 M5 G1 G2 hb')
    | fail)
  obtain ⟨_, hbB, M5, G1, G2⟩ := X5.out
  have hb : Bts g' (4096 * (2 + 2)) := by
    intro j hj
    by_cases h : j < 8192
    · rw [G1 j h]; exact storeG_bts (storeG_bts (storeG_bts (bts0 _))) j h
    · rw [G2 j (by omega) hj]; exact bts0 1 0 (by omega)
  have h0 : ∀ j, j < 8 → g' (A + 0 + j) = storeG (fun _ => 0) (A + 0) 8 u (A + 0 + j) := fun j hj => by rw [G1 _ (by omega), storeG_out _ _ _ _ _ (by omega), storeG_out _ _ _ _ _ (by omega)]
  have h100 : ∀ j, j < 8 → g' (A + 100 + j) = storeG (storeG (fun _ => 0) (A + 0) 8 u) (A + 100) 8 u (A + 100 + j) := fun j hj => by rw [G1 _ (by omega), storeG_out _ _ _ _ _ (by omega)]
  have h50 : ∀ j, j < 1 → g' (A + 50 + j) = stb v j := fun j hj => by rw [G1 _ (by omega), storeG_at _ _ _ _ _ (by omega), show A + 50 + j - (A + 50) = j by omega]
  have hvb := HV.out
  have hub := HU.out
  obtain ⟨W, hW⟩ : ∃ W : Int, W = v % 256 := ⟨_, rfl⟩
  have hq : ∀ i : Nat, i < 1 → W / 2 ^ (8 * i) % 256 = v / 2 ^ (8 * i) % 256 := by
    intro i hi
    rw [hW]
    match i, hi with
    | 0, _ => simp only [Nat.mul_zero, Int.pow_zero, Int.ediv_one]; omega
    | n + 1, h => exact absurd h (by omega)
  have L1 := Aside0.mk (load_val u p b' (4096 * (2 + 2)) cap' A 0 8 4 g' w5 M5 hb (by omega) (by omega) (by rw [num_store _ (A + 0) 8 u hub.1 (fun j => g' (A + 0 + j)) h0]; omega))
  have L2 := fun (w : World) (M : IsMem w p b' (4096 * (2 + 2)) cap' 4 g') => Aside0.mk (load_val u p b' (4096 * (2 + 2)) cap' A 100 8 4 g' w M hb (by omega) (by omega) (by rw [num_store _ (A + 100) 8 u hub.1 (fun j => g' (A + 100 + j)) h100]; omega))
  have L3 : ∀ (w : World) (M : IsMem w p b' (4096 * (2 + 2)) cap' 4 g'), Aside0 (Calls Try.prog 9 #[.pointer (some ⟨p, 0, none⟩), .int .u64 ((A : Int) + 50), .int .u64 0, .int .i64 1] w fun e w' => e = .returned (.tuple #[.int .u64 W, .bool true]) ∧ Below w.heap.size w w') := fun w M => ⟨load_val W p b' (4096 * (2 + 2)) cap' (A + 50) 0 1 4 g' w M hb (by omega) (by omega) (by
    rw [num_congr (z' := stb v) (fun j hj => by rw [Nat.add_zero]; exact h50 j hj), num_stb v hvb.1, hW]
    omega)⟩
  have L4 : ∀ (i : Nat) (_ : i < 1) (w : World) (M : IsMem w p b' (4096 * (2 + 2)) cap' 4 g'), Aside0 (Calls Try.prog 9 #[.pointer (some ⟨p, 0, none⟩), .int .u64 (A : Int), .int .u64 (50 + (i : Int)), .int .i64 1] w fun e w' => e = .returned (.tuple #[.int .u64 (W / 2 ^ (8 * i) % 256), .bool true]) ∧ Below w.heap.size w w') := fun i hi w M => ⟨load_val _ p b' (4096 * (2 + 2)) cap' A (50 + i) 1 4 g' w M hb (by omega) (by omega) (by
    rw [hq i hi]
    have h := h50 i hi
    simp only [num, Nat.add_zero]
    rw [show A + (50 + i) = A + 50 + i by omega, h, stb]
    omega)⟩
  have L5 : ∀ (w : World) (M : IsMem w p b' (4096 * (2 + 2)) cap' 4 g'), Aside0 (Calls Try.prog 9 #[.pointer (some ⟨p, 0, none⟩), .int .u64 12288, .int .u64 4095, .int .i64 1] w fun e w' => e = .returned (.tuple #[.int .u64 0, .bool true]) ∧ Below w.heap.size w w') := fun w M => ⟨load_val 0 p b' (4096 * (2 + 2)) cap' 12288 4095 1 4 g' w M hb (by omega) (by omega) (by
    simp only [num, Nat.add_zero]
    rw [G2 _ (by omega) (by omega)]
    omega)⟩
  have L6 : ∀ (w : World) (M : IsMem w p b' (4096 * (2 + 2)) cap' 4 g'), Aside0 (Calls Try.prog 9 #[.pointer (some ⟨p, 0, none⟩), .int .u64 12288, .int .u64 4096, .int .i64 1] w fun e w' => e = .returned (.tuple #[.int .u64 0, .bool false]) ∧ Below w.heap.size w w') := fun w M => ⟨load_no p b' (4096 * (2 + 2)) cap' 12288 4096 1 4 g' w M (by omega) (by omega) (by omega)⟩
  have HW := Aside0.mk hW
  have hand : bits .and .u64 v 255 = W := by
    obtain ⟨a, ha⟩ := Int.eq_ofNat_of_zero_le hvb.1
    have h2 := bits_and_u64_nat a 255 (by omega) (by omega)
    rw [show (255 : Nat) = 2 ^ 8 - 1 from rfl, Nat.and_two_pow_sub_one_eq_mod] at h2
    rw [ha, show (255 : Int) = ((2 ^ 8 - 1 : Nat) : Int) from rfl, h2, hW, ha]
    omega
  have hmask : ∀ i : Nat, i < 1 → bits .and .u64 (W / 2 ^ (8 * i)) 255 = W / 2 ^ (8 * i) % 256 := fun i hi => by
    have hp : (0 : Int) < 2 ^ (8 * i) := Int.pow_pos (by decide)
    have hW0 : 0 ≤ W ∧ W < 18446744073709551616 := by have := HW.out; omega
    exact and255 _ (Int.ediv_nonneg hW0.1 (Int.le_of_lt hp)) (Int.lt_of_le_of_lt (Int.ediv_le_self _ hW0.1) hW0.2)
  have LL := Aside0.mk (And.intro L2 (And.intro L3 (And.intro L4 (And.intro L5 (And.intro L6 hmask)))))
  clear L2 L3 L4 L5 L6 hmask hb h0 h100 h50 hvb hub hW hq G1 G2 M5 hbB
  go_wp2_with (first
    | (go_at_call 9; refine L1.out.mono ?_; clear L1; rintro e w6 ⟨rfl, B6⟩; have X6 := Aside0.mk (And.intro (X5.out.1.trans (B6.mono X5.out.1.size)) (X5.out.2.2.1.below B6 X5.out.2.2.1.obj.lt X5.out.2.2.1.row.lt)); clear X5 B6)
    | (go_at_call 9; refine (LL.out.1 _ X6.out.2).out.mono ?_; rintro e w7 ⟨rfl, B7⟩; have X7 := Aside0.mk (And.intro (X6.out.1.trans (B7.mono X6.out.1.size)) (X6.out.2.below B7 X6.out.2.obj.lt X6.out.2.row.lt)); clear X6 B7)
    | (go_at_call 9; refine (LL.out.2.1 _ X7.out.2).out.mono ?_; rintro e w8 ⟨rfl, B8⟩; have X8 := Aside0.mk (And.intro (X7.out.1.trans (B8.mono X7.out.1.size)) (X7.out.2.below B8 X7.out.2.obj.lt X7.out.2.row.lt)); clear X7 B8))
  go_loopg [20] 1 (fun kq v20 w' => ∃ i : Nat, v20 = .int .i64 i ∧ Aside0 (i + kq = 1) ∧ Aside0 (Below w.heap.size w w') ∧ Aside0 (IsMem w' p b' (4096 * (2 + 2)) cap' 4 g'))
  case atStart => exact ⟨0, rfl, ⟨rfl⟩, ⟨X8.out.1⟩, ⟨X8.out.2⟩⟩
  case round =>
    clear X8 X1
    obtain ⟨i, rfl, HK, HB, HM⟩ := hrel
    cases gk with
    | succ k1 =>
      have hi : i < 1 := by have := HK.out; omega
      have hm := LL.out.2.2.2.2.2 i hi
      go_wp2_with (go_at_call 9; refine (LL.out.2.2.1 i hi _ HM.out).out.mono ?_; rintro e w9 ⟨rfl, B9⟩; have X9 := Aside0.mk (And.intro (HB.out.trans (B9.mono HB.out.size)) (HM.out.below B9 HM.out.obj.lt HM.out.row.lt)); clear B9)
      go_roundg k1
      case rel => exact ⟨i + 1, by simp, ⟨by have := HK.out; omega⟩, ⟨X9.out.1⟩, ⟨X9.out.2⟩⟩
      case measure => exact Nat.lt_succ_self _
    | zero =>
      obtain rfl : i = 1 := by have := HK.out; omega
      have L5 := LL.out.2.2.2.1 _ HM.out
      go_wp2_with (first
        | (go_at_call 9; refine L5.out.mono ?_; clear L5; rintro e w9 ⟨rfl, B9⟩; have X9 := Aside0.mk (And.intro (HB.out.trans (B9.mono HB.out.size)) (HM.out.below B9 HM.out.obj.lt HM.out.row.lt)); clear B9)
        | (go_at_call 9; refine (LL.out.2.2.2.2.1 _ X9.out.2).out.mono ?_; rintro e w10 ⟨rfl, B10⟩; have X10 := Aside0.mk (X9.out.1.trans (B10.mono X9.out.1.size)); clear B10 X9)
        | (go_at_call 10; refine (sure _).mono ?_; rintro e w11 ⟨rfl, B11⟩; have X11 := Aside0.mk (X10.out.trans (B11.mono X10.out.size)); clear B11 X10))
      go_ret
      exact ⟨rfl, X11.out⟩
set_option maxHeartbeats 16000000 in
set_option maxRecDepth 100000 in
theorem back2 (x : Int) (A : Nat) (hA : x.tmod 8000 = (A : Int)) (hA2 : A < 8000) (y : Int) (hy : (IntKind.u64.wrap y).tmod 4 = 1) (v u : Int) (hv : 0 ≤ v ∧ v < 18446744073709551616) (hu : 0 ≤ u ∧ u < 18446744073709551616) (w : World) :
    Calls Try.prog 3 #[.int .u64 x, .int .i64 y, .agg #[.int .u64 v, .int .u64 u]] w fun e w' => e = .returned (.bool true) ∧ Below w.heap.size w w' := by
  have HV := Aside0.mk hv
  have HU := Aside0.mk hu
  have HS := Aside0.mk (new_ex w.heap.size 2 4 w (w.alloc (.cells #[.int .u64 v, .int .u64 u] 23)).drew (below_alloc (Below.refl _ _) _).drew (by simp) (by omega) (by omega))
  have c0 := cell_of_row (w.alloc (.cells #[.int .u64 v, .int .u64 u] 23)) w.heap.size 0 #[.int .u64 v, .int .u64 u] 23 (0, 0) (heap_alloc_new w _)
  have c1 := cell_of_row (w.alloc (.cells #[.int .u64 v, .int .u64 u] 23)) w.heap.size 1 #[.int .u64 v, .int .u64 u] 23 (0, 0) (heap_alloc_new w _)
  clear hv hu
  go_enter Try.func3, Try.ntmps3
  go_wp2
  go_region
  go_wp2_with (go_at_call 6; refine HS.out.mono ?_; clear HS; rintro e w1 ⟨p, b, rfl, B1, M1, hb, hp⟩; have X1 := Aside0.mk (And.intro B1 (And.intro M1 (And.intro hb hp))); clear B1 M1 hb hp)
  have S1 := Aside0.mk (store_yes w.heap.size p b 8192 8192 A 0 8 4 u _ _ X1.out.2.1 (by omega) (by omega) X1.out.2.2.1 HU.out)
  go_wp2_with (first
    | (go_at_call 7; refine S1.out.mono ?_; clear S1; rintro e w2 ⟨rfl, B2, M2⟩; have X2 := Aside0.mk (And.intro (X1.out.1.trans B2) M2); clear B2 M2)
    | (go_at_call 7; refine (store_yes w.heap.size p b 8192 8192 A 100 8 4 u _ _ X2.out.2 (by omega) (by omega) X1.out.2.2.1 HU.out).mono ?_; rintro e w3 ⟨rfl, B3, M3⟩; have X3 := Aside0.mk (And.intro (X2.out.1.trans B3) M3); clear X2 B3 M3)
    | (go_at_call 7; refine (store_yes w.heap.size p b 8192 8192 A 50 2 4 v _ _ X3.out.2 (by omega) (by omega) X1.out.2.2.1 HV.out).mono ?_; rintro e w4 ⟨rfl, B4, M4⟩; have X4 := Aside0.mk (And.intro (X3.out.1.trans B4) M4); clear X3 B4 M4)
    | (go_at_call 8; refine (grow_yes w.heap.size p b 8192 8192 2 4 2 _ _ X4.out.2 rfl (by omega) (by omega) X1.out.2.2.1 X1.out.2.2.2).mono ?_; rintro e w5 ⟨rfl, B5, b', cap', g', hb', M5, G1, G2⟩; have X5 := Aside0.mk (And.intro (X4.out.1.trans B5) (And.intro hb' (And.intro M5 (And.intro G1 G2)))); clear X4 B5 M5 G1 G2 hb')
    | fail)
  obtain ⟨_, hbB, M5, G1, G2⟩ := X5.out
  have hb : Bts g' (4096 * (2 + 2)) := by
    intro j hj
    by_cases h : j < 8192
    · rw [G1 j h]; exact storeG_bts (storeG_bts (storeG_bts (bts0 _))) j h
    · rw [G2 j (by omega) hj]; exact bts0 1 0 (by omega)
  have h0 : ∀ j, j < 8 → g' (A + 0 + j) = storeG (fun _ => 0) (A + 0) 8 u (A + 0 + j) := fun j hj => by rw [G1 _ (by omega), storeG_out _ _ _ _ _ (by omega), storeG_out _ _ _ _ _ (by omega)]
  have h100 : ∀ j, j < 8 → g' (A + 100 + j) = storeG (storeG (fun _ => 0) (A + 0) 8 u) (A + 100) 8 u (A + 100 + j) := fun j hj => by rw [G1 _ (by omega), storeG_out _ _ _ _ _ (by omega)]
  have h50 : ∀ j, j < 2 → g' (A + 50 + j) = stb v j := fun j hj => by rw [G1 _ (by omega), storeG_at _ _ _ _ _ (by omega), show A + 50 + j - (A + 50) = j by omega]
  have hvb := HV.out
  have hub := HU.out
  obtain ⟨W, hW⟩ : ∃ W : Int, W = v % 65536 := ⟨_, rfl⟩
  have hq : ∀ i : Nat, i < 2 → W / 2 ^ (8 * i) % 256 = v / 2 ^ (8 * i) % 256 := by
    intro i hi
    rw [hW]
    match i, hi with
    | 0, _ => simp only [Nat.mul_zero, Int.pow_zero, Int.ediv_one]; omega
    | 1, _ => simp only [show 8 * 1 = 8 from rfl]; omega
    | n + 2, h => exact absurd h (by omega)
  have L1 := Aside0.mk (load_val u p b' (4096 * (2 + 2)) cap' A 0 8 4 g' w5 M5 hb (by omega) (by omega) (by rw [num_store _ (A + 0) 8 u hub.1 (fun j => g' (A + 0 + j)) h0]; omega))
  have L2 := fun (w : World) (M : IsMem w p b' (4096 * (2 + 2)) cap' 4 g') => Aside0.mk (load_val u p b' (4096 * (2 + 2)) cap' A 100 8 4 g' w M hb (by omega) (by omega) (by rw [num_store _ (A + 100) 8 u hub.1 (fun j => g' (A + 100 + j)) h100]; omega))
  have L3 : ∀ (w : World) (M : IsMem w p b' (4096 * (2 + 2)) cap' 4 g'), Aside0 (Calls Try.prog 9 #[.pointer (some ⟨p, 0, none⟩), .int .u64 ((A : Int) + 50), .int .u64 0, .int .i64 2] w fun e w' => e = .returned (.tuple #[.int .u64 W, .bool true]) ∧ Below w.heap.size w w') := fun w M => ⟨load_val W p b' (4096 * (2 + 2)) cap' (A + 50) 0 2 4 g' w M hb (by omega) (by omega) (by
    rw [num_congr (z' := stb v) (fun j hj => by rw [Nat.add_zero]; exact h50 j hj), num_stb v hvb.1, hW]
    omega)⟩
  have L4 : ∀ (i : Nat) (_ : i < 2) (w : World) (M : IsMem w p b' (4096 * (2 + 2)) cap' 4 g'), Aside0 (Calls Try.prog 9 #[.pointer (some ⟨p, 0, none⟩), .int .u64 (A : Int), .int .u64 (50 + (i : Int)), .int .i64 1] w fun e w' => e = .returned (.tuple #[.int .u64 (W / 2 ^ (8 * i) % 256), .bool true]) ∧ Below w.heap.size w w') := fun i hi w M => ⟨load_val _ p b' (4096 * (2 + 2)) cap' A (50 + i) 1 4 g' w M hb (by omega) (by omega) (by
    rw [hq i hi]
    have h := h50 i hi
    simp only [num, Nat.add_zero]
    rw [show A + (50 + i) = A + 50 + i by omega, h, stb]
    omega)⟩
  have L5 : ∀ (w : World) (M : IsMem w p b' (4096 * (2 + 2)) cap' 4 g'), Aside0 (Calls Try.prog 9 #[.pointer (some ⟨p, 0, none⟩), .int .u64 12288, .int .u64 4095, .int .i64 1] w fun e w' => e = .returned (.tuple #[.int .u64 0, .bool true]) ∧ Below w.heap.size w w') := fun w M => ⟨load_val 0 p b' (4096 * (2 + 2)) cap' 12288 4095 1 4 g' w M hb (by omega) (by omega) (by
    simp only [num, Nat.add_zero]
    rw [G2 _ (by omega) (by omega)]
    omega)⟩
  have L6 : ∀ (w : World) (M : IsMem w p b' (4096 * (2 + 2)) cap' 4 g'), Aside0 (Calls Try.prog 9 #[.pointer (some ⟨p, 0, none⟩), .int .u64 12288, .int .u64 4096, .int .i64 1] w fun e w' => e = .returned (.tuple #[.int .u64 0, .bool false]) ∧ Below w.heap.size w w') := fun w M => ⟨load_no p b' (4096 * (2 + 2)) cap' 12288 4096 1 4 g' w M (by omega) (by omega) (by omega)⟩
  have HW := Aside0.mk hW
  have hand : bits .and .u64 v 65535 = W := by
    obtain ⟨a, ha⟩ := Int.eq_ofNat_of_zero_le hvb.1
    have h2 := bits_and_u64_nat a 65535 (by omega) (by omega)
    rw [show (65535 : Nat) = 2 ^ 16 - 1 from rfl, Nat.and_two_pow_sub_one_eq_mod] at h2
    rw [ha, show (65535 : Int) = ((2 ^ 16 - 1 : Nat) : Int) from rfl, h2, hW, ha]
    omega
  have hmask : ∀ i : Nat, i < 2 → bits .and .u64 (W / 2 ^ (8 * i)) 255 = W / 2 ^ (8 * i) % 256 := fun i hi => by
    have hp : (0 : Int) < 2 ^ (8 * i) := Int.pow_pos (by decide)
    have hW0 : 0 ≤ W ∧ W < 18446744073709551616 := by have := HW.out; omega
    exact and255 _ (Int.ediv_nonneg hW0.1 (Int.le_of_lt hp)) (Int.lt_of_le_of_lt (Int.ediv_le_self _ hW0.1) hW0.2)
  have LL := Aside0.mk (And.intro L2 (And.intro L3 (And.intro L4 (And.intro L5 (And.intro L6 hmask)))))
  clear L2 L3 L4 L5 L6 hmask hb h0 h100 h50 hvb hub hW hq G1 G2 M5 hbB
  go_wp2_with (first
    | (go_at_call 9; refine L1.out.mono ?_; clear L1; rintro e w6 ⟨rfl, B6⟩; have X6 := Aside0.mk (And.intro (X5.out.1.trans (B6.mono X5.out.1.size)) (X5.out.2.2.1.below B6 X5.out.2.2.1.obj.lt X5.out.2.2.1.row.lt)); clear X5 B6)
    | (go_at_call 9; refine (LL.out.1 _ X6.out.2).out.mono ?_; rintro e w7 ⟨rfl, B7⟩; have X7 := Aside0.mk (And.intro (X6.out.1.trans (B7.mono X6.out.1.size)) (X6.out.2.below B7 X6.out.2.obj.lt X6.out.2.row.lt)); clear X6 B7)
    | (go_at_call 9; refine (LL.out.2.1 _ X7.out.2).out.mono ?_; rintro e w8 ⟨rfl, B8⟩; have X8 := Aside0.mk (And.intro (X7.out.1.trans (B8.mono X7.out.1.size)) (X7.out.2.below B8 X7.out.2.obj.lt X7.out.2.row.lt)); clear X7 B8))
  go_loopg [20] 2 (fun kq v20 w' => ∃ i : Nat, v20 = .int .i64 i ∧ Aside0 (i + kq = 2) ∧ Aside0 (Below w.heap.size w w') ∧ Aside0 (IsMem w' p b' (4096 * (2 + 2)) cap' 4 g'))
  case atStart => exact ⟨0, rfl, ⟨rfl⟩, ⟨X8.out.1⟩, ⟨X8.out.2⟩⟩
  case round =>
    clear X8 X1
    obtain ⟨i, rfl, HK, HB, HM⟩ := hrel
    cases gk with
    | succ k1 =>
      have hi : i < 2 := by have := HK.out; omega
      have hm := LL.out.2.2.2.2.2 i hi
      go_wp2_with (go_at_call 9; refine (LL.out.2.2.1 i hi _ HM.out).out.mono ?_; rintro e w9 ⟨rfl, B9⟩; have X9 := Aside0.mk (And.intro (HB.out.trans (B9.mono HB.out.size)) (HM.out.below B9 HM.out.obj.lt HM.out.row.lt)); clear B9)
      go_roundg k1
      case rel => exact ⟨i + 1, by simp, ⟨by have := HK.out; omega⟩, ⟨X9.out.1⟩, ⟨X9.out.2⟩⟩
      case measure => exact Nat.lt_succ_self _
    | zero =>
      obtain rfl : i = 2 := by have := HK.out; omega
      have L5 := LL.out.2.2.2.1 _ HM.out
      go_wp2_with (first
        | (go_at_call 9; refine L5.out.mono ?_; clear L5; rintro e w9 ⟨rfl, B9⟩; have X9 := Aside0.mk (And.intro (HB.out.trans (B9.mono HB.out.size)) (HM.out.below B9 HM.out.obj.lt HM.out.row.lt)); clear B9)
        | (go_at_call 9; refine (LL.out.2.2.2.2.1 _ X9.out.2).out.mono ?_; rintro e w10 ⟨rfl, B10⟩; have X10 := Aside0.mk (X9.out.1.trans (B10.mono X9.out.1.size)); clear B10 X9)
        | (go_at_call 10; refine (sure _).mono ?_; rintro e w11 ⟨rfl, B11⟩; have X11 := Aside0.mk (X10.out.trans (B11.mono X10.out.size)); clear B11 X10))
      go_ret
      exact ⟨rfl, X11.out⟩
set_option maxHeartbeats 16000000 in
set_option maxRecDepth 100000 in
theorem back4 (x : Int) (A : Nat) (hA : x.tmod 8000 = (A : Int)) (hA2 : A < 8000) (y : Int) (hy : (IntKind.u64.wrap y).tmod 4 = 2) (v u : Int) (hv : 0 ≤ v ∧ v < 18446744073709551616) (hu : 0 ≤ u ∧ u < 18446744073709551616) (w : World) :
    Calls Try.prog 3 #[.int .u64 x, .int .i64 y, .agg #[.int .u64 v, .int .u64 u]] w fun e w' => e = .returned (.bool true) ∧ Below w.heap.size w w' := by
  have HV := Aside0.mk hv
  have HU := Aside0.mk hu
  have HS := Aside0.mk (new_ex w.heap.size 2 4 w (w.alloc (.cells #[.int .u64 v, .int .u64 u] 23)).drew (below_alloc (Below.refl _ _) _).drew (by simp) (by omega) (by omega))
  have c0 := cell_of_row (w.alloc (.cells #[.int .u64 v, .int .u64 u] 23)) w.heap.size 0 #[.int .u64 v, .int .u64 u] 23 (0, 0) (heap_alloc_new w _)
  have c1 := cell_of_row (w.alloc (.cells #[.int .u64 v, .int .u64 u] 23)) w.heap.size 1 #[.int .u64 v, .int .u64 u] 23 (0, 0) (heap_alloc_new w _)
  clear hv hu
  go_enter Try.func3, Try.ntmps3
  go_wp2
  go_region
  go_wp2_with (go_at_call 6; refine HS.out.mono ?_; clear HS; rintro e w1 ⟨p, b, rfl, B1, M1, hb, hp⟩; have X1 := Aside0.mk (And.intro B1 (And.intro M1 (And.intro hb hp))); clear B1 M1 hb hp)
  have S1 := Aside0.mk (store_yes w.heap.size p b 8192 8192 A 0 8 4 u _ _ X1.out.2.1 (by omega) (by omega) X1.out.2.2.1 HU.out)
  go_wp2_with (first
    | (go_at_call 7; refine S1.out.mono ?_; clear S1; rintro e w2 ⟨rfl, B2, M2⟩; have X2 := Aside0.mk (And.intro (X1.out.1.trans B2) M2); clear B2 M2)
    | (go_at_call 7; refine (store_yes w.heap.size p b 8192 8192 A 100 8 4 u _ _ X2.out.2 (by omega) (by omega) X1.out.2.2.1 HU.out).mono ?_; rintro e w3 ⟨rfl, B3, M3⟩; have X3 := Aside0.mk (And.intro (X2.out.1.trans B3) M3); clear X2 B3 M3)
    | (go_at_call 7; refine (store_yes w.heap.size p b 8192 8192 A 50 4 4 v _ _ X3.out.2 (by omega) (by omega) X1.out.2.2.1 HV.out).mono ?_; rintro e w4 ⟨rfl, B4, M4⟩; have X4 := Aside0.mk (And.intro (X3.out.1.trans B4) M4); clear X3 B4 M4)
    | (go_at_call 8; refine (grow_yes w.heap.size p b 8192 8192 2 4 2 _ _ X4.out.2 rfl (by omega) (by omega) X1.out.2.2.1 X1.out.2.2.2).mono ?_; rintro e w5 ⟨rfl, B5, b', cap', g', hb', M5, G1, G2⟩; have X5 := Aside0.mk (And.intro (X4.out.1.trans B5) (And.intro hb' (And.intro M5 (And.intro G1 G2)))); clear X4 B5 M5 G1 G2 hb')
    | fail)
  obtain ⟨_, hbB, M5, G1, G2⟩ := X5.out
  have hb : Bts g' (4096 * (2 + 2)) := by
    intro j hj
    by_cases h : j < 8192
    · rw [G1 j h]; exact storeG_bts (storeG_bts (storeG_bts (bts0 _))) j h
    · rw [G2 j (by omega) hj]; exact bts0 1 0 (by omega)
  have h0 : ∀ j, j < 8 → g' (A + 0 + j) = storeG (fun _ => 0) (A + 0) 8 u (A + 0 + j) := fun j hj => by rw [G1 _ (by omega), storeG_out _ _ _ _ _ (by omega), storeG_out _ _ _ _ _ (by omega)]
  have h100 : ∀ j, j < 8 → g' (A + 100 + j) = storeG (storeG (fun _ => 0) (A + 0) 8 u) (A + 100) 8 u (A + 100 + j) := fun j hj => by rw [G1 _ (by omega), storeG_out _ _ _ _ _ (by omega)]
  have h50 : ∀ j, j < 4 → g' (A + 50 + j) = stb v j := fun j hj => by rw [G1 _ (by omega), storeG_at _ _ _ _ _ (by omega), show A + 50 + j - (A + 50) = j by omega]
  have hvb := HV.out
  have hub := HU.out
  obtain ⟨W, hW⟩ : ∃ W : Int, W = v % 4294967296 := ⟨_, rfl⟩
  have hq : ∀ i : Nat, i < 4 → W / 2 ^ (8 * i) % 256 = v / 2 ^ (8 * i) % 256 := by
    intro i hi
    rw [hW]
    match i, hi with
    | 0, _ => simp only [Nat.mul_zero, Int.pow_zero, Int.ediv_one]; omega
    | 1, _ => simp only [show 8 * 1 = 8 from rfl]; omega
    | 2, _ => simp only [show 8 * 2 = 16 from rfl]; omega
    | 3, _ => simp only [show 8 * 3 = 24 from rfl]; omega
    | n + 4, h => exact absurd h (by omega)
  have L1 := Aside0.mk (load_val u p b' (4096 * (2 + 2)) cap' A 0 8 4 g' w5 M5 hb (by omega) (by omega) (by rw [num_store _ (A + 0) 8 u hub.1 (fun j => g' (A + 0 + j)) h0]; omega))
  have L2 := fun (w : World) (M : IsMem w p b' (4096 * (2 + 2)) cap' 4 g') => Aside0.mk (load_val u p b' (4096 * (2 + 2)) cap' A 100 8 4 g' w M hb (by omega) (by omega) (by rw [num_store _ (A + 100) 8 u hub.1 (fun j => g' (A + 100 + j)) h100]; omega))
  have L3 : ∀ (w : World) (M : IsMem w p b' (4096 * (2 + 2)) cap' 4 g'), Aside0 (Calls Try.prog 9 #[.pointer (some ⟨p, 0, none⟩), .int .u64 ((A : Int) + 50), .int .u64 0, .int .i64 4] w fun e w' => e = .returned (.tuple #[.int .u64 W, .bool true]) ∧ Below w.heap.size w w') := fun w M => ⟨load_val W p b' (4096 * (2 + 2)) cap' (A + 50) 0 4 4 g' w M hb (by omega) (by omega) (by
    rw [num_congr (z' := stb v) (fun j hj => by rw [Nat.add_zero]; exact h50 j hj), num_stb v hvb.1, hW]
    omega)⟩
  have L4 : ∀ (i : Nat) (_ : i < 4) (w : World) (M : IsMem w p b' (4096 * (2 + 2)) cap' 4 g'), Aside0 (Calls Try.prog 9 #[.pointer (some ⟨p, 0, none⟩), .int .u64 (A : Int), .int .u64 (50 + (i : Int)), .int .i64 1] w fun e w' => e = .returned (.tuple #[.int .u64 (W / 2 ^ (8 * i) % 256), .bool true]) ∧ Below w.heap.size w w') := fun i hi w M => ⟨load_val _ p b' (4096 * (2 + 2)) cap' A (50 + i) 1 4 g' w M hb (by omega) (by omega) (by
    rw [hq i hi]
    have h := h50 i hi
    simp only [num, Nat.add_zero]
    rw [show A + (50 + i) = A + 50 + i by omega, h, stb]
    omega)⟩
  have L5 : ∀ (w : World) (M : IsMem w p b' (4096 * (2 + 2)) cap' 4 g'), Aside0 (Calls Try.prog 9 #[.pointer (some ⟨p, 0, none⟩), .int .u64 12288, .int .u64 4095, .int .i64 1] w fun e w' => e = .returned (.tuple #[.int .u64 0, .bool true]) ∧ Below w.heap.size w w') := fun w M => ⟨load_val 0 p b' (4096 * (2 + 2)) cap' 12288 4095 1 4 g' w M hb (by omega) (by omega) (by
    simp only [num, Nat.add_zero]
    rw [G2 _ (by omega) (by omega)]
    omega)⟩
  have L6 : ∀ (w : World) (M : IsMem w p b' (4096 * (2 + 2)) cap' 4 g'), Aside0 (Calls Try.prog 9 #[.pointer (some ⟨p, 0, none⟩), .int .u64 12288, .int .u64 4096, .int .i64 1] w fun e w' => e = .returned (.tuple #[.int .u64 0, .bool false]) ∧ Below w.heap.size w w') := fun w M => ⟨load_no p b' (4096 * (2 + 2)) cap' 12288 4096 1 4 g' w M (by omega) (by omega) (by omega)⟩
  have HW := Aside0.mk hW
  have hand : bits .and .u64 v 4294967295 = W := by
    obtain ⟨a, ha⟩ := Int.eq_ofNat_of_zero_le hvb.1
    have h2 := bits_and_u64_nat a 4294967295 (by omega) (by omega)
    rw [show (4294967295 : Nat) = 2 ^ 32 - 1 from rfl, Nat.and_two_pow_sub_one_eq_mod] at h2
    rw [ha, show (4294967295 : Int) = ((2 ^ 32 - 1 : Nat) : Int) from rfl, h2, hW, ha]
    omega
  have hmask : ∀ i : Nat, i < 4 → bits .and .u64 (W / 2 ^ (8 * i)) 255 = W / 2 ^ (8 * i) % 256 := fun i hi => by
    have hp : (0 : Int) < 2 ^ (8 * i) := Int.pow_pos (by decide)
    have hW0 : 0 ≤ W ∧ W < 18446744073709551616 := by have := HW.out; omega
    exact and255 _ (Int.ediv_nonneg hW0.1 (Int.le_of_lt hp)) (Int.lt_of_le_of_lt (Int.ediv_le_self _ hW0.1) hW0.2)
  have LL := Aside0.mk (And.intro L2 (And.intro L3 (And.intro L4 (And.intro L5 (And.intro L6 hmask)))))
  clear L2 L3 L4 L5 L6 hmask hb h0 h100 h50 hvb hub hW hq G1 G2 M5 hbB
  go_wp2_with (first
    | (go_at_call 9; refine L1.out.mono ?_; clear L1; rintro e w6 ⟨rfl, B6⟩; have X6 := Aside0.mk (And.intro (X5.out.1.trans (B6.mono X5.out.1.size)) (X5.out.2.2.1.below B6 X5.out.2.2.1.obj.lt X5.out.2.2.1.row.lt)); clear X5 B6)
    | (go_at_call 9; refine (LL.out.1 _ X6.out.2).out.mono ?_; rintro e w7 ⟨rfl, B7⟩; have X7 := Aside0.mk (And.intro (X6.out.1.trans (B7.mono X6.out.1.size)) (X6.out.2.below B7 X6.out.2.obj.lt X6.out.2.row.lt)); clear X6 B7)
    | (go_at_call 9; refine (LL.out.2.1 _ X7.out.2).out.mono ?_; rintro e w8 ⟨rfl, B8⟩; have X8 := Aside0.mk (And.intro (X7.out.1.trans (B8.mono X7.out.1.size)) (X7.out.2.below B8 X7.out.2.obj.lt X7.out.2.row.lt)); clear X7 B8))
  go_loopg [20] 4 (fun kq v20 w' => ∃ i : Nat, v20 = .int .i64 i ∧ Aside0 (i + kq = 4) ∧ Aside0 (Below w.heap.size w w') ∧ Aside0 (IsMem w' p b' (4096 * (2 + 2)) cap' 4 g'))
  case atStart => exact ⟨0, rfl, ⟨rfl⟩, ⟨X8.out.1⟩, ⟨X8.out.2⟩⟩
  case round =>
    clear X8 X1
    obtain ⟨i, rfl, HK, HB, HM⟩ := hrel
    cases gk with
    | succ k1 =>
      have hi : i < 4 := by have := HK.out; omega
      have hm := LL.out.2.2.2.2.2 i hi
      go_wp2_with (go_at_call 9; refine (LL.out.2.2.1 i hi _ HM.out).out.mono ?_; rintro e w9 ⟨rfl, B9⟩; have X9 := Aside0.mk (And.intro (HB.out.trans (B9.mono HB.out.size)) (HM.out.below B9 HM.out.obj.lt HM.out.row.lt)); clear B9)
      go_roundg k1
      case rel => exact ⟨i + 1, by simp, ⟨by have := HK.out; omega⟩, ⟨X9.out.1⟩, ⟨X9.out.2⟩⟩
      case measure => exact Nat.lt_succ_self _
    | zero =>
      obtain rfl : i = 4 := by have := HK.out; omega
      have L5 := LL.out.2.2.2.1 _ HM.out
      go_wp2_with (first
        | (go_at_call 9; refine L5.out.mono ?_; clear L5; rintro e w9 ⟨rfl, B9⟩; have X9 := Aside0.mk (And.intro (HB.out.trans (B9.mono HB.out.size)) (HM.out.below B9 HM.out.obj.lt HM.out.row.lt)); clear B9)
        | (go_at_call 9; refine (LL.out.2.2.2.2.1 _ X9.out.2).out.mono ?_; rintro e w10 ⟨rfl, B10⟩; have X10 := Aside0.mk (X9.out.1.trans (B10.mono X9.out.1.size)); clear B10 X9)
        | (go_at_call 10; refine (sure _).mono ?_; rintro e w11 ⟨rfl, B11⟩; have X11 := Aside0.mk (X10.out.trans (B11.mono X10.out.size)); clear B11 X10))
      go_ret
      exact ⟨rfl, X11.out⟩
set_option maxHeartbeats 16000000 in
set_option maxRecDepth 100000 in
theorem back8 (x : Int) (A : Nat) (hA : x.tmod 8000 = (A : Int)) (hA2 : A < 8000) (y : Int) (hy : (IntKind.u64.wrap y).tmod 4 = 3) (v u : Int) (hv : 0 ≤ v ∧ v < 18446744073709551616) (hu : 0 ≤ u ∧ u < 18446744073709551616) (w : World) :
    Calls Try.prog 3 #[.int .u64 x, .int .i64 y, .agg #[.int .u64 v, .int .u64 u]] w fun e w' => e = .returned (.bool true) ∧ Below w.heap.size w w' := by
  have HV := Aside0.mk hv
  have HU := Aside0.mk hu
  have HS := Aside0.mk (new_ex w.heap.size 2 4 w (w.alloc (.cells #[.int .u64 v, .int .u64 u] 23)).drew (below_alloc (Below.refl _ _) _).drew (by simp) (by omega) (by omega))
  have c0 := cell_of_row (w.alloc (.cells #[.int .u64 v, .int .u64 u] 23)) w.heap.size 0 #[.int .u64 v, .int .u64 u] 23 (0, 0) (heap_alloc_new w _)
  have c1 := cell_of_row (w.alloc (.cells #[.int .u64 v, .int .u64 u] 23)) w.heap.size 1 #[.int .u64 v, .int .u64 u] 23 (0, 0) (heap_alloc_new w _)
  clear hv hu
  go_enter Try.func3, Try.ntmps3
  go_wp2
  go_region
  go_wp2_with (go_at_call 6; refine HS.out.mono ?_; clear HS; rintro e w1 ⟨p, b, rfl, B1, M1, hb, hp⟩; have X1 := Aside0.mk (And.intro B1 (And.intro M1 (And.intro hb hp))); clear B1 M1 hb hp)
  have S1 := Aside0.mk (store_yes w.heap.size p b 8192 8192 A 0 8 4 u _ _ X1.out.2.1 (by omega) (by omega) X1.out.2.2.1 HU.out)
  go_wp2_with (first
    | (go_at_call 7; refine S1.out.mono ?_; clear S1; rintro e w2 ⟨rfl, B2, M2⟩; have X2 := Aside0.mk (And.intro (X1.out.1.trans B2) M2); clear B2 M2)
    | (go_at_call 7; refine (store_yes w.heap.size p b 8192 8192 A 100 8 4 u _ _ X2.out.2 (by omega) (by omega) X1.out.2.2.1 HU.out).mono ?_; rintro e w3 ⟨rfl, B3, M3⟩; have X3 := Aside0.mk (And.intro (X2.out.1.trans B3) M3); clear X2 B3 M3)
    | (go_at_call 7; refine (store_yes w.heap.size p b 8192 8192 A 50 8 4 v _ _ X3.out.2 (by omega) (by omega) X1.out.2.2.1 HV.out).mono ?_; rintro e w4 ⟨rfl, B4, M4⟩; have X4 := Aside0.mk (And.intro (X3.out.1.trans B4) M4); clear X3 B4 M4)
    | (go_at_call 8; refine (grow_yes w.heap.size p b 8192 8192 2 4 2 _ _ X4.out.2 rfl (by omega) (by omega) X1.out.2.2.1 X1.out.2.2.2).mono ?_; rintro e w5 ⟨rfl, B5, b', cap', g', hb', M5, G1, G2⟩; have X5 := Aside0.mk (And.intro (X4.out.1.trans B5) (And.intro hb' (And.intro M5 (And.intro G1 G2)))); clear X4 B5 M5 G1 G2 hb')
    | fail)
  obtain ⟨_, hbB, M5, G1, G2⟩ := X5.out
  have hb : Bts g' (4096 * (2 + 2)) := by
    intro j hj
    by_cases h : j < 8192
    · rw [G1 j h]; exact storeG_bts (storeG_bts (storeG_bts (bts0 _))) j h
    · rw [G2 j (by omega) hj]; exact bts0 1 0 (by omega)
  have h0 : ∀ j, j < 8 → g' (A + 0 + j) = storeG (fun _ => 0) (A + 0) 8 u (A + 0 + j) := fun j hj => by rw [G1 _ (by omega), storeG_out _ _ _ _ _ (by omega), storeG_out _ _ _ _ _ (by omega)]
  have h100 : ∀ j, j < 8 → g' (A + 100 + j) = storeG (storeG (fun _ => 0) (A + 0) 8 u) (A + 100) 8 u (A + 100 + j) := fun j hj => by rw [G1 _ (by omega), storeG_out _ _ _ _ _ (by omega)]
  have h50 : ∀ j, j < 8 → g' (A + 50 + j) = stb v j := fun j hj => by rw [G1 _ (by omega), storeG_at _ _ _ _ _ (by omega), show A + 50 + j - (A + 50) = j by omega]
  have hvb := HV.out
  have hub := HU.out
  obtain ⟨W, hW⟩ : ∃ W : Int, W = v % 18446744073709551616 := ⟨_, rfl⟩
  have hq : ∀ i : Nat, i < 8 → W / 2 ^ (8 * i) % 256 = v / 2 ^ (8 * i) % 256 := by
    intro i hi
    rw [hW]
    match i, hi with
    | 0, _ => simp only [Nat.mul_zero, Int.pow_zero, Int.ediv_one]; omega
    | 1, _ => simp only [show 8 * 1 = 8 from rfl]; omega
    | 2, _ => simp only [show 8 * 2 = 16 from rfl]; omega
    | 3, _ => simp only [show 8 * 3 = 24 from rfl]; omega
    | 4, _ => simp only [show 8 * 4 = 32 from rfl]; omega
    | 5, _ => simp only [show 8 * 5 = 40 from rfl]; omega
    | 6, _ => simp only [show 8 * 6 = 48 from rfl]; omega
    | 7, _ => simp only [show 8 * 7 = 56 from rfl]; omega
    | n + 8, h => exact absurd h (by omega)
  have L1 := Aside0.mk (load_val u p b' (4096 * (2 + 2)) cap' A 0 8 4 g' w5 M5 hb (by omega) (by omega) (by rw [num_store _ (A + 0) 8 u hub.1 (fun j => g' (A + 0 + j)) h0]; omega))
  have L2 := fun (w : World) (M : IsMem w p b' (4096 * (2 + 2)) cap' 4 g') => Aside0.mk (load_val u p b' (4096 * (2 + 2)) cap' A 100 8 4 g' w M hb (by omega) (by omega) (by rw [num_store _ (A + 100) 8 u hub.1 (fun j => g' (A + 100 + j)) h100]; omega))
  have L3 : ∀ (w : World) (M : IsMem w p b' (4096 * (2 + 2)) cap' 4 g'), Aside0 (Calls Try.prog 9 #[.pointer (some ⟨p, 0, none⟩), .int .u64 ((A : Int) + 50), .int .u64 0, .int .i64 8] w fun e w' => e = .returned (.tuple #[.int .u64 W, .bool true]) ∧ Below w.heap.size w w') := fun w M => ⟨load_val W p b' (4096 * (2 + 2)) cap' (A + 50) 0 8 4 g' w M hb (by omega) (by omega) (by
    rw [num_congr (z' := stb v) (fun j hj => by rw [Nat.add_zero]; exact h50 j hj), num_stb v hvb.1, hW]
    omega)⟩
  have L4 : ∀ (i : Nat) (_ : i < 8) (w : World) (M : IsMem w p b' (4096 * (2 + 2)) cap' 4 g'), Aside0 (Calls Try.prog 9 #[.pointer (some ⟨p, 0, none⟩), .int .u64 (A : Int), .int .u64 (50 + (i : Int)), .int .i64 1] w fun e w' => e = .returned (.tuple #[.int .u64 (W / 2 ^ (8 * i) % 256), .bool true]) ∧ Below w.heap.size w w') := fun i hi w M => ⟨load_val _ p b' (4096 * (2 + 2)) cap' A (50 + i) 1 4 g' w M hb (by omega) (by omega) (by
    rw [hq i hi]
    have h := h50 i hi
    simp only [num, Nat.add_zero]
    rw [show A + (50 + i) = A + 50 + i by omega, h, stb]
    omega)⟩
  have L5 : ∀ (w : World) (M : IsMem w p b' (4096 * (2 + 2)) cap' 4 g'), Aside0 (Calls Try.prog 9 #[.pointer (some ⟨p, 0, none⟩), .int .u64 12288, .int .u64 4095, .int .i64 1] w fun e w' => e = .returned (.tuple #[.int .u64 0, .bool true]) ∧ Below w.heap.size w w') := fun w M => ⟨load_val 0 p b' (4096 * (2 + 2)) cap' 12288 4095 1 4 g' w M hb (by omega) (by omega) (by
    simp only [num, Nat.add_zero]
    rw [G2 _ (by omega) (by omega)]
    omega)⟩
  have L6 : ∀ (w : World) (M : IsMem w p b' (4096 * (2 + 2)) cap' 4 g'), Aside0 (Calls Try.prog 9 #[.pointer (some ⟨p, 0, none⟩), .int .u64 12288, .int .u64 4096, .int .i64 1] w fun e w' => e = .returned (.tuple #[.int .u64 0, .bool false]) ∧ Below w.heap.size w w') := fun w M => ⟨load_no p b' (4096 * (2 + 2)) cap' 12288 4096 1 4 g' w M (by omega) (by omega) (by omega)⟩
  have HW := Aside0.mk hW
  have hmask : ∀ i : Nat, i < 8 → bits .and .u64 (W / 2 ^ (8 * i)) 255 = W / 2 ^ (8 * i) % 256 := fun i hi => by
    have hp : (0 : Int) < 2 ^ (8 * i) := Int.pow_pos (by decide)
    have hW0 : 0 ≤ W ∧ W < 18446744073709551616 := by have := HW.out; omega
    exact and255 _ (Int.ediv_nonneg hW0.1 (Int.le_of_lt hp)) (Int.lt_of_le_of_lt (Int.ediv_le_self _ hW0.1) hW0.2)
  have LL := Aside0.mk (And.intro L2 (And.intro L3 (And.intro L4 (And.intro L5 (And.intro L6 hmask)))))
  obtain rfl : W = v := by have := HW.out; omega
  clear L2 L3 L4 L5 L6 hmask hb h0 h100 h50 hvb hub hW hq G1 G2 M5 hbB
  go_wp2_with (first
    | (go_at_call 9; refine L1.out.mono ?_; clear L1; rintro e w6 ⟨rfl, B6⟩; have X6 := Aside0.mk (And.intro (X5.out.1.trans (B6.mono X5.out.1.size)) (X5.out.2.2.1.below B6 X5.out.2.2.1.obj.lt X5.out.2.2.1.row.lt)); clear X5 B6)
    | (go_at_call 9; refine (LL.out.1 _ X6.out.2).out.mono ?_; rintro e w7 ⟨rfl, B7⟩; have X7 := Aside0.mk (And.intro (X6.out.1.trans (B7.mono X6.out.1.size)) (X6.out.2.below B7 X6.out.2.obj.lt X6.out.2.row.lt)); clear X6 B7)
    | (go_at_call 9; refine (LL.out.2.1 _ X7.out.2).out.mono ?_; rintro e w8 ⟨rfl, B8⟩; have X8 := Aside0.mk (And.intro (X7.out.1.trans (B8.mono X7.out.1.size)) (X7.out.2.below B8 X7.out.2.obj.lt X7.out.2.row.lt)); clear X7 B8))
  go_loopg [20] 8 (fun kq v20 w' => ∃ i : Nat, v20 = .int .i64 i ∧ Aside0 (i + kq = 8) ∧ Aside0 (Below w.heap.size w w') ∧ Aside0 (IsMem w' p b' (4096 * (2 + 2)) cap' 4 g'))
  case atStart => exact ⟨0, rfl, ⟨rfl⟩, ⟨X8.out.1⟩, ⟨X8.out.2⟩⟩
  case round =>
    clear X8 X1
    obtain ⟨i, rfl, HK, HB, HM⟩ := hrel
    cases gk with
    | succ k1 =>
      have hi : i < 8 := by have := HK.out; omega
      have hm := LL.out.2.2.2.2.2 i hi
      go_wp2_with (go_at_call 9; refine (LL.out.2.2.1 i hi _ HM.out).out.mono ?_; rintro e w9 ⟨rfl, B9⟩; have X9 := Aside0.mk (And.intro (HB.out.trans (B9.mono HB.out.size)) (HM.out.below B9 HM.out.obj.lt HM.out.row.lt)); clear B9)
      go_roundg k1
      case rel => exact ⟨i + 1, by simp, ⟨by have := HK.out; omega⟩, ⟨X9.out.1⟩, ⟨X9.out.2⟩⟩
      case measure => exact Nat.lt_succ_self _
    | zero =>
      obtain rfl : i = 8 := by have := HK.out; omega
      have L5 := LL.out.2.2.2.1 _ HM.out
      go_wp2_with (first
        | (go_at_call 9; refine L5.out.mono ?_; clear L5; rintro e w9 ⟨rfl, B9⟩; have X9 := Aside0.mk (And.intro (HB.out.trans (B9.mono HB.out.size)) (HM.out.below B9 HM.out.obj.lt HM.out.row.lt)); clear B9)
        | (go_at_call 9; refine (LL.out.2.2.2.2.1 _ X9.out.2).out.mono ?_; rintro e w10 ⟨rfl, B10⟩; have X10 := Aside0.mk (X9.out.1.trans (B10.mono X9.out.1.size)); clear B10 X9)
        | (go_at_call 10; refine (sure _).mono ?_; rintro e w11 ⟨rfl, B11⟩; have X11 := Aside0.mk (X10.out.trans (B11.mono X10.out.size)); clear B11 X10))
      go_ret
      exact ⟨rfl, X11.out⟩
end Go.Proofs.Ytocjneilaabnnaa.M
