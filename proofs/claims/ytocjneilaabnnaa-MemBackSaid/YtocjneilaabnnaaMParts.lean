/- Layer 3: the law MemParts, walked. -/
import Derived.Test.YtocjneilaabnnaaMSure
namespace Go.Proofs.Ytocjneilaabnnaa.M
open Go Go.RowKit Go.Proofs.YtocjneilaabnnaaW.PrintWords
set_option linter.unusedVariables false
set_option linter.unusedSimpArgs false
theorem storeG_at (g : Nat → Int) (a n : Nat) (v : Int) (j : Nat) (h : a ≤ j ∧ j < a + n) : storeG g a n v j = stb v (j - a) := by unfold storeG; rw [if_pos h]
theorem stb_up (v : Int) (k j : Nat) : stb v (k + j) = stb (v / 2 ^ (8 * k)) j := by
  unfold stb
  rw [Int.ediv_ediv_of_nonneg (Int.le_of_lt (Int.pow_pos (by decide))), ← Int.pow_add, Nat.mul_add]
theorem storeG_step (g : Nat → Int) (A i : Nat) (v : Int) (j : Nat) : storeG (storeG g A i v) (A + i) 1 (v / 2 ^ (8 * i)) j = storeG g A (i + 1) v j := by
  unfold storeG
  by_cases e : j = A + i
  · subst e
    rw [if_pos (by omega), if_pos (by omega), show A + i - (A + i) = 0 by omega, show A + i - A = i by omega]
    simp [stb]
  · rw [if_neg (by omega)]
    by_cases e2 : A ≤ j ∧ j < A + i
    · rw [if_pos e2, if_pos (by omega)]
    · rw [if_neg e2, if_neg (by omega)]
set_option maxHeartbeats 8000000 in
set_option maxRecDepth 100000 in
theorem parts (v : Int) (hv : 0 ≤ v ∧ v < 18446744073709551616) (x : Int) (A : Nat) (hm : IntKind.u64.wrap (4080 + (IntKind.u64.wrap x).tmod 32) = (A : Int)) (hm2 : 4080 ≤ A ∧ A < 4112) (w : World) :
    Calls Try.prog 4 #[.int .u64 v, .int .i64 x] w fun e w' => e = .returned (.bool true) ∧ Below w.heap.size w w' := by
  have N := Aside0.mk (new_yes 2 2 w (by omega) (by omega))
  have HV := Aside0.mk hv
  have HA := Aside0.mk hm2
  have hA1 : A < 4112 := hm2.2
  clear hv hm2
  go_enter Try.func4, Try.ntmps4
  go_wp2_with (go_at_call 6; refine N.out.mono ?_; clear N; rintro e w1 ⟨rfl, B1, M1⟩; have X1 := Aside0.mk (And.intro B1 M1); clear B1 M1)
  go_loopg [8] 8 (fun kq v8 w' => ∃ i : Nat, v8 = .int .i64 i ∧ Aside0 (i + kq = 8) ∧ Aside0 (Below w.heap.size w w') ∧ Aside0 (IsMem w' (w.heap.size + 1) w.heap.size 8192 8192 2 (storeG (fun _ => 0) A i v)))
  case atStart => exact ⟨0, rfl, ⟨rfl⟩, ⟨X1.out.1⟩, ⟨X1.out.2.congr (fun j _ => by rw [storeG_out _ _ _ _ _ (by omega)])⟩⟩
  case round =>
    clear X1
    obtain ⟨i, rfl, HK, HB, HM⟩ := hrel
    cases gk with
    | succ k1 =>
      have hi : i < 8 := by have := HK.out; omega
      have hvi : 0 ≤ v / 2 ^ (8 * i) ∧ v / 2 ^ (8 * i) < 18446744073709551616 := by
        have hp : (0 : Int) < 2 ^ (8 * i) := Int.pow_pos (by decide)
        have h0 := HV.out
        refine ⟨Int.ediv_nonneg h0.1 (Int.le_of_lt hp), Int.lt_of_le_of_lt (Int.ediv_le_self _ h0.1) h0.2⟩
      have S := Aside0.mk (store_yes w.heap.size (w.heap.size + 1) w.heap.size 8192 8192 A i 1 2 (v / 2 ^ (8 * i)) _ _ HM.out (by omega) (by omega) (Nat.le_refl _) hvi)
      clear hvi
      go_wp2_with (go_at_call 7; refine S.out.mono ?_; clear S; rintro e w2 ⟨rfl, B2, M2⟩; have X2 := Aside0.mk (And.intro B2 M2); clear B2 M2)
      go_roundg k1
      case rel => exact ⟨i + 1, by simp, ⟨by have := HK.out; omega⟩, ⟨HB.out.trans X2.out.1⟩, ⟨X2.out.2.congr (fun j _ => storeG_step _ _ _ _ _)⟩⟩
      case measure => exact Nat.lt_succ_self _
    | zero =>
      obtain rfl : i = 8 := by have := HK.out; omega
      have hbt : Bts (storeG (fun _ => 0) A 8 v) 8192 := storeG_bts (fun j _ => by omega)
      have L1 := Aside0.mk (load_val v (w.heap.size + 1) w.heap.size 8192 8192 A 0 8 2 _ _ HM.out hbt (by omega) (by omega) (by
        rw [num_congr (z' := stb v) (fun j hj => by rw [storeG_at _ _ _ _ _ (by omega), show A + 0 + j - A = j by omega]), num_stb v HV.out.1]
        have := HV.out
        omega))
      go_wp2_with (go_at_call 9; refine L1.out.mono ?_; clear L1; rintro e w3 ⟨rfl, B3⟩; have X3 := Aside0.mk (And.intro (HB.out.trans (B3.mono HB.out.size)) (HM.out.below B3 HM.out.obj.lt HM.out.row.lt)); clear B3)
      have L2 : Aside0 (Calls Try.prog 9 #[.pointer (some ⟨w.heap.size + 1, 0, none⟩), .int .u64 ((A : Int) + 4), .int .u64 0, .int .i64 4] w3 fun e w' => e = .returned (.tuple #[.int .u64 (v / 4294967296), .bool true]) ∧ Below w3.heap.size w3 w') := ⟨load_val (v / 4294967296) (w.heap.size + 1) w.heap.size 8192 8192 (A + 4) 0 4 2 _ _ X3.out.2 hbt (by omega) (by omega) (by
        rw [num_congr (z' := stb (v / 2 ^ (8 * 4))) (fun j hj => by rw [storeG_at _ _ _ _ _ (by omega), show A + 4 + 0 + j - A = 4 + j by omega, stb_up]), num_stb _ (Int.ediv_nonneg HV.out.1 (by decide))]
        have := HV.out
        omega)⟩
      go_wp2_with (go_at_call 9; refine L2.out.mono ?_; clear L2; rintro e w4 ⟨rfl, B4⟩; have X4 := Aside0.mk (And.intro (X3.out.1.trans (B4.mono X3.out.1.size)) (X3.out.2.below B4 X3.out.2.obj.lt X3.out.2.row.lt)); clear B4)
      have L3 := Aside0.mk (bytes_yes (w.heap.size + 1) w.heap.size 8192 8192 A 8 2 _ _ X4.out.2 (by omega) (by omega) (by omega))
      clear hbt
      go_wp2_with (go_at_call 11; refine L3.out.mono ?_; clear L3; rintro e w5 ⟨b', cap', rfl, B5, B6, C5⟩; have X5 := Aside0.mk (And.intro (X4.out.1.trans (B5.mono X4.out.1.size)) C5); clear B5 B6 C5)
      go_loopg [15] 8 (fun kq v15 w' => ∃ i : Nat, v15 = .int .i64 i ∧ Aside0 (i + kq = 8) ∧ Aside0 (Below w.heap.size w w') ∧ Aside0 (∀ j, j < 8 → w'.cell? ⟨b', j, none⟩ = some (.int .u8 (storeG (fun _ => 0) A 8 v (A + j)))))
      case atStart => exact ⟨0, rfl, ⟨rfl⟩, ⟨X5.out.1⟩, ⟨X5.out.2⟩⟩
      case round =>
        clear X3 X4 X5 HM HB HK
        obtain ⟨i, rfl, HK, HB, HC⟩ := hrel
        cases gk with
        | succ k1 =>
          have hi : i < 8 := by have := HK.out; omega
          have hc : wr.cell? ⟨b', i, none⟩ = some (.int .u8 (v / 2 ^ (8 * i) % 256)) := by
            rw [HC.out i hi, storeG_at _ _ _ _ _ (by omega), show A + i - A = i by omega]
            rfl
          go_wp2
          go_region
          all_goals (try go_wp2)
          go_roundg k1
          case rel => exact ⟨i + 1, by simp, ⟨by have := HK.out; omega⟩, ⟨HB.out.drew⟩, ⟨HC.out⟩⟩
          case measure => exact Nat.lt_succ_self _
        | zero =>
          obtain rfl : i = 8 := by have := HK.out; omega
          have S := Aside0.mk (sure wr)
          go_wp2_with (go_at_call 10; refine S.out.mono ?_; clear S; rintro e w6 ⟨rfl, B6⟩)
          go_ret
          exact ⟨rfl, HB.out.trans (B6.mono HB.out.size)⟩
end Go.Proofs.Ytocjneilaabnnaa.M
