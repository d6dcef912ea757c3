/- Functions of the Go program as Lean functions, and the proofs that the Go code answers as they do. Written by a program of this session. -/
import Derived.Test.YtkpafgnchdohaaaDoorXNx0
namespace Go.Proofs.YtkpafgnchdohaaaDoor.XN
open Go.RowKit Go.Proofs.YtkpafgnchdohaaaDoorW.PrintWords Go.Proofs.YtkpafgnchdohaaaDoorW.PrintLast Go.Proofs.YtkpafgnchdohaaaDoorW.PrintMore
attribute [local go_sem] max2_int min2_int max_two min_two max_three min_three max_four min_four   -- for this text's walks alone
set_option linter.unusedVariables false
set_option linter.unusedSimpArgs false

/-! ### num_wide_low: function 18 -/
def num_wide_low.f (a0 : Int) (a1 : Int) : Option (Int) := if a0 = 32 then (some ((a1) % 4294967296)) else (some a1)
set_option maxHeartbeats 8000000 in
set_option maxRecDepth 100000 in
theorem num_wide_low.calls (a0 : Int) (a1 : Int) (r : Int) (w : World) (h : num_wide_low.f a0 a1 = some r) :
    Calls Tryd.prog 18 #[.int .i64 a0, .int .u64 a1] w fun e w' => e = .returned (.int .u64 r) ∧ Drawn0 w w' := by
  have H : (if a0 = 32 then (some ((a1) % 4294967296)) else (some a1)) = some r := h
  clear h
  by_cases c3 : a0 = 32
  · rw [if_pos c3] at H
    have c3b0 : (a0 == 32) = true := beq_iff_eq.mpr c3
    have c3b1 : (a0 != 32) = false := bne_eq_false_iff_eq.mpr c3
    clear c3
    obtain rfl := Option.some.inj H
    go_enter Tryd.func18, Tryd.ntmps18
    go_wp2
    go_ret
    exact ⟨by first | rfl | (simp; done) | (simp [*]; done), by repeat (first | exact Drawn0.refl _ | apply Drawn0.step)⟩
  · rw [if_neg c3] at H
    have c3b0 : (a0 == 32) = false := beq_eq_false_iff_ne.mpr c3
    have c3b1 : (a0 != 32) = true := bne_iff_ne.mpr c3
    obtain rfl := Option.some.inj H
    go_enter Tryd.func18, Tryd.ntmps18
    go_wp2
    go_ret
    exact ⟨by first | rfl | (simp; done) | (simp [*]; done), by repeat (first | exact Drawn0.refl _ | apply Drawn0.step)⟩

/-! ### num_is: function 19 -/
def num_is.f (a0 : Bool) : Option (Int) := if a0 = true then (some 1) else (some 0)
set_option maxHeartbeats 8000000 in
set_option maxRecDepth 100000 in
theorem num_is.calls (a0 : Bool) (r : Int) (w : World) (h : num_is.f a0 = some r) :
    Calls Tryd.prog 19 #[.bool a0] w fun e w' => e = .returned (.int .u64 r) ∧ Drawn0 w w' := by
  have H : (if a0 = true then (some 1) else (some 0)) = some r := h
  clear h
  by_cases c2 : a0 = true
  · subst c2
    have H1 : (some 1) = some r := by rw [if_pos rfl] at H; exact H
    clear H
    have H := H1
    clear H1
    obtain rfl := Option.some.inj H
    go_enter Tryd.func19, Tryd.ntmps19
    go_wp2
    go_ret
    exact ⟨by first | rfl | (simp; done) | (simp [*]; done), by repeat (first | exact Drawn0.refl _ | apply Drawn0.step)⟩
  · replace c2 := Bool.eq_false_iff.mpr c2
    subst c2
    have H1 : (some 0) = some r := by rw [if_neg (show ¬ (false = true) by decide)] at H; exact H
    clear H
    have H := H1
    clear H1
    obtain rfl := Option.some.inj H
    go_enter Tryd.func19, Tryd.ntmps19
    go_wp2
    go_ret
    exact ⟨by first | rfl | (simp; done) | (simp [*]; done), by repeat (first | exact Drawn0.refl _ | apply Drawn0.step)⟩

/-! ### num_wide_signed: function 23 -/
def num_wide_signed.f (a0 : Int) (a1 : Int) : Option (Int) := if a0 = 32 then (some (wrap64 (wrap32 (a1)))) else (some (wrap64 (a1)))
set_option maxHeartbeats 8000000 in
set_option maxRecDepth 100000 in
theorem num_wide_signed.calls (a0 : Int) (a1 : Int) (r : Int) (w : World) (h : num_wide_signed.f a0 a1 = some r) :
    Calls Tryd.prog 23 #[.int .i64 a0, .int .u64 a1] w fun e w' => e = .returned (.int .i64 r) ∧ Drawn0 w w' := by
  have H : (if a0 = 32 then (some (wrap64 (wrap32 (a1)))) else (some (wrap64 (a1)))) = some r := h
  clear h
  by_cases c3 : a0 = 32
  · rw [if_pos c3] at H
    have c3b0 : (a0 == 32) = true := beq_iff_eq.mpr c3
    have c3b1 : (a0 != 32) = false := bne_eq_false_iff_eq.mpr c3
    clear c3
    obtain rfl := Option.some.inj H
    go_enter Tryd.func23, Tryd.ntmps23
    go_wp2
    go_ret
    exact ⟨by first | rfl | (simp; done) | (simp [*]; done), by repeat (first | exact Drawn0.refl _ | apply Drawn0.step)⟩
  · rw [if_neg c3] at H
    have c3b0 : (a0 == 32) = false := beq_eq_false_iff_ne.mpr c3
    have c3b1 : (a0 != 32) = true := bne_iff_ne.mpr c3
    obtain rfl := Option.some.inj H
    go_enter Tryd.func23, Tryd.ntmps23
    go_wp2
    go_ret
    exact ⟨by first | rfl | (simp; done) | (simp [*]; done), by repeat (first | exact Drawn0.refl _ | apply Drawn0.step)⟩

/-! ### num_wide_holds: function 20 -/
def num_wide_holds.f (a0 : Int) (a1 : Int) (a2 : Int) (a3 : Int) : Option (Bool) := (num_wide_signed.f a0 a2).bind fun t101 => ((num_wide_signed.f a0 a3).bind fun t102 => (if ((a1 - 70) % 256) = 0 then (some (a2 == a3)) else (if ((a1 - 70) % 256) = 1 then (some (a2 != a3)) else (if ((a1 - 70) % 256) = 2 then (some (decide (t101 < t102))) else (if ((a1 - 70) % 256) = 3 then (some (decide (a2 < a3))) else (if ((a1 - 70) % 256) = 4 then (some (decide (t101 > t102))) else (if ((a1 - 70) % 256) = 5 then (some (decide (a2 > a3))) else (if ((a1 - 70) % 256) = 6 then (some (decide (t101 ≤ t102))) else (if ((a1 - 70) % 256) = 7 then (some (decide (a2 ≤ a3))) else (if ((a1 - 70) % 256) = 8 then (some (decide (t101 ≥ t102))) else (some (decide (a2 ≥ a3)))))))))))))
set_option maxHeartbeats 8000000 in
set_option maxRecDepth 100000 in
theorem num_wide_holds.calls (a0 : Int) (a1 : Int) (a2 : Int) (a3 : Int) (r : Bool) (w : World) (h : num_wide_holds.f a0 a1 a2 a3 = some r) :
    Calls Tryd.prog 20 #[.int .i64 a0, .int .u8 a1, .int .u64 a2, .int .u64 a3] w fun e w' => e = .returned (.bool r) ∧ Drawn0 w w' := by
  have H : ((num_wide_signed.f a0 a2).bind fun t101 => ((num_wide_signed.f a0 a3).bind fun t102 => (if ((a1 - 70) % 256) = 0 then (some (a2 == a3)) else (if ((a1 - 70) % 256) = 1 then (some (a2 != a3)) else (if ((a1 - 70) % 256) = 2 then (some (decide (t101 < t102))) else (if ((a1 - 70) % 256) = 3 then (some (decide (a2 < a3))) else (if ((a1 - 70) % 256) = 4 then (some (decide (t101 > t102))) else (if ((a1 - 70) % 256) = 5 then (some (decide (a2 > a3))) else (if ((a1 - 70) % 256) = 6 then (some (decide (t101 ≤ t102))) else (if ((a1 - 70) % 256) = 7 then (some (decide (a2 ≤ a3))) else (if ((a1 - 70) % 256) = 8 then (some (decide (t101 ≥ t102))) else (some (decide (a2 ≥ a3)))))))))))))) = some r := h
  clear h
  replace H := Option.bind_eq_some_iff.mp H
  obtain ⟨t101, A50, H⟩ := H
  replace H : ((num_wide_signed.f a0 a3).bind fun t102 => (if ((a1 - 70) % 256) = 0 then (some (a2 == a3)) else (if ((a1 - 70) % 256) = 1 then (some (a2 != a3)) else (if ((a1 - 70) % 256) = 2 then (some (decide (t101 < t102))) else (if ((a1 - 70) % 256) = 3 then (some (decide (a2 < a3))) else (if ((a1 - 70) % 256) = 4 then (some (decide (t101 > t102))) else (if ((a1 - 70) % 256) = 5 then (some (decide (a2 > a3))) else (if ((a1 - 70) % 256) = 6 then (some (decide (t101 ≤ t102))) else (if ((a1 - 70) % 256) = 7 then (some (decide (a2 ≤ a3))) else (if ((a1 - 70) % 256) = 8 then (some (decide (t101 ≥ t102))) else (some (decide (a2 ≥ a3))))))))))))) = some r := H
  have A5 := Aside0.mk A50
  clear A50
  replace H := Option.bind_eq_some_iff.mp H
  obtain ⟨t102, A60, H⟩ := H
  replace H : (if ((a1 - 70) % 256) = 0 then (some (a2 == a3)) else (if ((a1 - 70) % 256) = 1 then (some (a2 != a3)) else (if ((a1 - 70) % 256) = 2 then (some (decide (t101 < t102))) else (if ((a1 - 70) % 256) = 3 then (some (decide (a2 < a3))) else (if ((a1 - 70) % 256) = 4 then (some (decide (t101 > t102))) else (if ((a1 - 70) % 256) = 5 then (some (decide (a2 > a3))) else (if ((a1 - 70) % 256) = 6 then (some (decide (t101 ≤ t102))) else (if ((a1 - 70) % 256) = 7 then (some (decide (a2 ≤ a3))) else (if ((a1 - 70) % 256) = 8 then (some (decide (t101 ≥ t102))) else (some (decide (a2 ≥ a3)))))))))))) = some r := H
  have A6 := Aside0.mk A60
  clear A60
  by_cases c7 : ((a1 - 70) % 256) = 0
  · rw [if_pos c7] at H
    have c7b0 : (((a1 - 70) % 256) == 0) = true := beq_iff_eq.mpr c7
    have c7b1 : (((a1 - 70) % 256) != 0) = false := bne_eq_false_iff_eq.mpr c7
    clear c7
    obtain rfl := Option.some.inj H
    go_enter Tryd.func20, Tryd.ntmps20
    go_wp2_with (first | ((with_reducible refine gate_callee (f := 23) rfl ?_); refine goesL_ _ rfl rfl Tryd.func23 (by kernel_rfl) rfl #[.int .i64 a0, .int .u64 a2] rfl (by (try simp only [List.map_toArray, List.map_cons, List.map_nil]); first | done | rfl | (simp only [List.length_drop, List.length_take]; rfl)) ?_; (with_reducible refine (num_wide_signed.calls a0 a2 t101 _ A5.out).mono ?_); rintro e w' ⟨rfl, ⟨nd, rfl⟩⟩; refine ⟨_, rfl, ?_⟩) | ((with_reducible refine gate_callee (f := 23) rfl ?_); refine goesL_ _ rfl rfl Tryd.func23 (by kernel_rfl) rfl #[.int .i64 a0, .int .u64 a3] rfl (by (try simp only [List.map_toArray, List.map_cons, List.map_nil]); first | done | rfl | (simp only [List.length_drop, List.length_take]; rfl)) ?_; (with_reducible refine (num_wide_signed.calls a0 a3 t102 _ A6.out).mono ?_); rintro e w' ⟨rfl, ⟨nd, rfl⟩⟩; refine ⟨_, rfl, ?_⟩))
    go_ret
    exact ⟨by first | rfl | (simp; done) | (simp [*]; done), by repeat (first | exact Drawn0.refl _ | apply Drawn0.step)⟩
  · rw [if_neg c7] at H
    have c7b0 : (((a1 - 70) % 256) == 0) = false := beq_eq_false_iff_ne.mpr c7
    have c7b1 : (((a1 - 70) % 256) != 0) = true := bne_iff_ne.mpr c7
    by_cases c8 : ((a1 - 70) % 256) = 1
    · rw [if_pos c8] at H
      have c8b0 : (((a1 - 70) % 256) == 1) = true := beq_iff_eq.mpr c8
      have c8b1 : (((a1 - 70) % 256) != 1) = false := bne_eq_false_iff_eq.mpr c8
      clear c8
      obtain rfl := Option.some.inj H
      go_enter Tryd.func20, Tryd.ntmps20
      go_wp2_with (first | ((with_reducible refine gate_callee (f := 23) rfl ?_); refine goesL_ _ rfl rfl Tryd.func23 (by kernel_rfl) rfl #[.int .i64 a0, .int .u64 a2] rfl (by (try simp only [List.map_toArray, List.map_cons, List.map_nil]); first | done | rfl | (simp only [List.length_drop, List.length_take]; rfl)) ?_; (with_reducible refine (num_wide_signed.calls a0 a2 t101 _ A5.out).mono ?_); rintro e w' ⟨rfl, ⟨nd, rfl⟩⟩; refine ⟨_, rfl, ?_⟩) | ((with_reducible refine gate_callee (f := 23) rfl ?_); refine goesL_ _ rfl rfl Tryd.func23 (by kernel_rfl) rfl #[.int .i64 a0, .int .u64 a3] rfl (by (try simp only [List.map_toArray, List.map_cons, List.map_nil]); first | done | rfl | (simp only [List.length_drop, List.length_take]; rfl)) ?_; (with_reducible refine (num_wide_signed.calls a0 a3 t102 _ A6.out).mono ?_); rintro e w' ⟨rfl, ⟨nd, rfl⟩⟩; refine ⟨_, rfl, ?_⟩))
      go_ret
      exact ⟨by first | rfl | (simp; done) | (simp [*]; done), by repeat (first | exact Drawn0.refl _ | apply Drawn0.step)⟩
    · rw [if_neg c8] at H
      have c8b0 : (((a1 - 70) % 256) == 1) = false := beq_eq_false_iff_ne.mpr c8
      have c8b1 : (((a1 - 70) % 256) != 1) = true := bne_iff_ne.mpr c8
      by_cases c9 : ((a1 - 70) % 256) = 2
      · rw [if_pos c9] at H
        have c9b0 : (((a1 - 70) % 256) == 2) = true := beq_iff_eq.mpr c9
        have c9b1 : (((a1 - 70) % 256) != 2) = false := bne_eq_false_iff_eq.mpr c9
        clear c9
        obtain rfl := Option.some.inj H
        go_enter Tryd.func20, Tryd.ntmps20
        go_wp2_with (first | ((with_reducible refine gate_callee (f := 23) rfl ?_); refine goesL_ _ rfl rfl Tryd.func23 (by kernel_rfl) rfl #[.int .i64 a0, .int .u64 a2] rfl (by (try simp only [List.map_toArray, List.map_cons, List.map_nil]); first | done | rfl | (simp only [List.length_drop, List.length_take]; rfl)) ?_; (with_reducible refine (num_wide_signed.calls a0 a2 t101 _ A5.out).mono ?_); rintro e w' ⟨rfl, ⟨nd, rfl⟩⟩; refine ⟨_, rfl, ?_⟩) | ((with_reducible refine gate_callee (f := 23) rfl ?_); refine goesL_ _ rfl rfl Tryd.func23 (by kernel_rfl) rfl #[.int .i64 a0, .int .u64 a3] rfl (by (try simp only [List.map_toArray, List.map_cons, List.map_nil]); first | done | rfl | (simp only [List.length_drop, List.length_take]; rfl)) ?_; (with_reducible refine (num_wide_signed.calls a0 a3 t102 _ A6.out).mono ?_); rintro e w' ⟨rfl, ⟨nd, rfl⟩⟩; refine ⟨_, rfl, ?_⟩))
        go_ret
        exact ⟨by first | rfl | (simp; done) | (simp [*]; done), by repeat (first | exact Drawn0.refl _ | apply Drawn0.step)⟩
      · rw [if_neg c9] at H
        have c9b0 : (((a1 - 70) % 256) == 2) = false := beq_eq_false_iff_ne.mpr c9
        have c9b1 : (((a1 - 70) % 256) != 2) = true := bne_iff_ne.mpr c9
        by_cases c10 : ((a1 - 70) % 256) = 3
        · rw [if_pos c10] at H
          have c10b0 : (((a1 - 70) % 256) == 3) = true := beq_iff_eq.mpr c10
          have c10b1 : (((a1 - 70) % 256) != 3) = false := bne_eq_false_iff_eq.mpr c10
          clear c10
          obtain rfl := Option.some.inj H
          go_enter Tryd.func20, Tryd.ntmps20
          go_wp2_with (first | ((with_reducible refine gate_callee (f := 23) rfl ?_); refine goesL_ _ rfl rfl Tryd.func23 (by kernel_rfl) rfl #[.int .i64 a0, .int .u64 a2] rfl (by (try simp only [List.map_toArray, List.map_cons, List.map_nil]); first | done | rfl | (simp only [List.length_drop, List.length_take]; rfl)) ?_; (with_reducible refine (num_wide_signed.calls a0 a2 t101 _ A5.out).mono ?_); rintro e w' ⟨rfl, ⟨nd, rfl⟩⟩; refine ⟨_, rfl, ?_⟩) | ((with_reducible refine gate_callee (f := 23) rfl ?_); refine goesL_ _ rfl rfl Tryd.func23 (by kernel_rfl) rfl #[.int .i64 a0, .int .u64 a3] rfl (by (try simp only [List.map_toArray, List.map_cons, List.map_nil]); first | done | rfl | (simp only [List.length_drop, List.length_take]; rfl)) ?_; (with_reducible refine (num_wide_signed.calls a0 a3 t102 _ A6.out).mono ?_); rintro e w' ⟨rfl, ⟨nd, rfl⟩⟩; refine ⟨_, rfl, ?_⟩))
          go_ret
          exact ⟨by first | rfl | (simp; done) | (simp [*]; done), by repeat (first | exact Drawn0.refl _ | apply Drawn0.step)⟩
        · rw [if_neg c10] at H
          have c10b0 : (((a1 - 70) % 256) == 3) = false := beq_eq_false_iff_ne.mpr c10
          have c10b1 : (((a1 - 70) % 256) != 3) = true := bne_iff_ne.mpr c10
          by_cases c11 : ((a1 - 70) % 256) = 4
          · rw [if_pos c11] at H
            have c11b0 : (((a1 - 70) % 256) == 4) = true := beq_iff_eq.mpr c11
            have c11b1 : (((a1 - 70) % 256) != 4) = false := bne_eq_false_iff_eq.mpr c11
            clear c11
            obtain rfl := Option.some.inj H
            go_enter Tryd.func20, Tryd.ntmps20
            go_wp2_with (first | ((with_reducible refine gate_callee (f := 23) rfl ?_); refine goesL_ _ rfl rfl Tryd.func23 (by kernel_rfl) rfl #[.int .i64 a0, .int .u64 a2] rfl (by (try simp only [List.map_toArray, List.map_cons, List.map_nil]); first | done | rfl | (simp only [List.length_drop, List.length_take]; rfl)) ?_; (with_reducible refine (num_wide_signed.calls a0 a2 t101 _ A5.out).mono ?_); rintro e w' ⟨rfl, ⟨nd, rfl⟩⟩; refine ⟨_, rfl, ?_⟩) | ((with_reducible refine gate_callee (f := 23) rfl ?_); refine goesL_ _ rfl rfl Tryd.func23 (by kernel_rfl) rfl #[.int .i64 a0, .int .u64 a3] rfl (by (try simp only [List.map_toArray, List.map_cons, List.map_nil]); first | done | rfl | (simp only [List.length_drop, List.length_take]; rfl)) ?_; (with_reducible refine (num_wide_signed.calls a0 a3 t102 _ A6.out).mono ?_); rintro e w' ⟨rfl, ⟨nd, rfl⟩⟩; refine ⟨_, rfl, ?_⟩))
            go_ret
            exact ⟨by first | rfl | (simp; done) | (simp [*]; done), by repeat (first | exact Drawn0.refl _ | apply Drawn0.step)⟩
          · rw [if_neg c11] at H
            have c11b0 : (((a1 - 70) % 256) == 4) = false := beq_eq_false_iff_ne.mpr c11
            have c11b1 : (((a1 - 70) % 256) != 4) = true := bne_iff_ne.mpr c11
            by_cases c12 : ((a1 - 70) % 256) = 5
            · rw [if_pos c12] at H
              have c12b0 : (((a1 - 70) % 256) == 5) = true := beq_iff_eq.mpr c12
              have c12b1 : (((a1 - 70) % 256) != 5) = false := bne_eq_false_iff_eq.mpr c12
              clear c12
              obtain rfl := Option.some.inj H
              go_enter Tryd.func20, Tryd.ntmps20
              go_wp2_with (first | ((with_reducible refine gate_callee (f := 23) rfl ?_); refine goesL_ _ rfl rfl Tryd.func23 (by kernel_rfl) rfl #[.int .i64 a0, .int .u64 a2] rfl (by (try simp only [List.map_toArray, List.map_cons, List.map_nil]); first | done | rfl | (simp only [List.length_drop, List.length_take]; rfl)) ?_; (with_reducible refine (num_wide_signed.calls a0 a2 t101 _ A5.out).mono ?_); rintro e w' ⟨rfl, ⟨nd, rfl⟩⟩; refine ⟨_, rfl, ?_⟩) | ((with_reducible refine gate_callee (f := 23) rfl ?_); refine goesL_ _ rfl rfl Tryd.func23 (by kernel_rfl) rfl #[.int .i64 a0, .int .u64 a3] rfl (by (try simp only [List.map_toArray, List.map_cons, List.map_nil]); first | done | rfl | (simp only [List.length_drop, List.length_take]; rfl)) ?_; (with_reducible refine (num_wide_signed.calls a0 a3 t102 _ A6.out).mono ?_); rintro e w' ⟨rfl, ⟨nd, rfl⟩⟩; refine ⟨_, rfl, ?_⟩))
              go_ret
              exact ⟨by first | rfl | (simp; done) | (simp [*]; done), by repeat (first | exact Drawn0.refl _ | apply Drawn0.step)⟩
            · rw [if_neg c12] at H
              have c12b0 : (((a1 - 70) % 256) == 5) = false := beq_eq_false_iff_ne.mpr c12
              have c12b1 : (((a1 - 70) % 256) != 5) = true := bne_iff_ne.mpr c12
              by_cases c13 : ((a1 - 70) % 256) = 6
              · rw [if_pos c13] at H
                have c13b0 : (((a1 - 70) % 256) == 6) = true := beq_iff_eq.mpr c13
                have c13b1 : (((a1 - 70) % 256) != 6) = false := bne_eq_false_iff_eq.mpr c13
                clear c13
                obtain rfl := Option.some.inj H
                go_enter Tryd.func20, Tryd.ntmps20
                go_wp2_with (first | ((with_reducible refine gate_callee (f := 23) rfl ?_); refine goesL_ _ rfl rfl Tryd.func23 (by kernel_rfl) rfl #[.int .i64 a0, .int .u64 a2] rfl (by (try simp only [List.map_toArray, List.map_cons, List.map_nil]); first | done | rfl | (simp only [List.length_drop, List.length_take]; rfl)) ?_; (with_reducible refine (num_wide_signed.calls a0 a2 t101 _ A5.out).mono ?_); rintro e w' ⟨rfl, ⟨nd, rfl⟩⟩; refine ⟨_, rfl, ?_⟩) | ((with_reducible refine gate_callee (f := 23) rfl ?_); refine goesL_ _ rfl rfl Tryd.func23 (by kernel_rfl) rfl #[.int .i64 a0, .int .u64 a3] rfl (by (try simp only [List.map_toArray, List.map_cons, List.map_nil]); first | done | rfl | (simp only [List.length_drop, List.length_take]; rfl)) ?_; (with_reducible refine (num_wide_signed.calls a0 a3 t102 _ A6.out).mono ?_); rintro e w' ⟨rfl, ⟨nd, rfl⟩⟩; refine ⟨_, rfl, ?_⟩))
                go_ret
                exact ⟨by first | rfl | (simp; done) | (simp [*]; done), by repeat (first | exact Drawn0.refl _ | apply Drawn0.step)⟩
              · rw [if_neg c13] at H
                have c13b0 : (((a1 - 70) % 256) == 6) = false := beq_eq_false_iff_ne.mpr c13
                have c13b1 : (((a1 - 70) % 256) != 6) = true := bne_iff_ne.mpr c13
                by_cases c14 : ((a1 - 70) % 256) = 7
                · rw [if_pos c14] at H
                  have c14b0 : (((a1 - 70) % 256) == 7) = true := beq_iff_eq.mpr c14
                  have c14b1 : (((a1 - 70) % 256) != 7) = false := bne_eq_false_iff_eq.mpr c14
                  clear c14
                  obtain rfl := Option.some.inj H
                  go_enter Tryd.func20, Tryd.ntmps20
                  go_wp2_with (first | ((with_reducible refine gate_callee (f := 23) rfl ?_); refine goesL_ _ rfl rfl Tryd.func23 (by kernel_rfl) rfl #[.int .i64 a0, .int .u64 a2] rfl (by (try simp only [List.map_toArray, List.map_cons, List.map_nil]); first | done | rfl | (simp only [List.length_drop, List.length_take]; rfl)) ?_; (with_reducible refine (num_wide_signed.calls a0 a2 t101 _ A5.out).mono ?_); rintro e w' ⟨rfl, ⟨nd, rfl⟩⟩; refine ⟨_, rfl, ?_⟩) | ((with_reducible refine gate_callee (f := 23) rfl ?_); refine goesL_ _ rfl rfl Tryd.func23 (by kernel_rfl) rfl #[.int .i64 a0, .int .u64 a3] rfl (by (try simp only [List.map_toArray, List.map_cons, List.map_nil]); first | done | rfl | (simp only [List.length_drop, List.length_take]; rfl)) ?_; (with_reducible refine (num_wide_signed.calls a0 a3 t102 _ A6.out).mono ?_); rintro e w' ⟨rfl, ⟨nd, rfl⟩⟩; refine ⟨_, rfl, ?_⟩))
                  go_ret
                  exact ⟨by first | rfl | (simp; done) | (simp [*]; done), by repeat (first | exact Drawn0.refl _ | apply Drawn0.step)⟩
                · rw [if_neg c14] at H
                  have c14b0 : (((a1 - 70) % 256) == 7) = false := beq_eq_false_iff_ne.mpr c14
                  have c14b1 : (((a1 - 70) % 256) != 7) = true := bne_iff_ne.mpr c14
                  by_cases c15 : ((a1 - 70) % 256) = 8
                  · rw [if_pos c15] at H
                    have c15b0 : (((a1 - 70) % 256) == 8) = true := beq_iff_eq.mpr c15
                    have c15b1 : (((a1 - 70) % 256) != 8) = false := bne_eq_false_iff_eq.mpr c15
                    clear c15
                    obtain rfl := Option.some.inj H
                    go_enter Tryd.func20, Tryd.ntmps20
                    go_wp2_with (first | ((with_reducible refine gate_callee (f := 23) rfl ?_); refine goesL_ _ rfl rfl Tryd.func23 (by kernel_rfl) rfl #[.int .i64 a0, .int .u64 a2] rfl (by (try simp only [List.map_toArray, List.map_cons, List.map_nil]); first | done | rfl | (simp only [List.length_drop, List.length_take]; rfl)) ?_; (with_reducible refine (num_wide_signed.calls a0 a2 t101 _ A5.out).mono ?_); rintro e w' ⟨rfl, ⟨nd, rfl⟩⟩; refine ⟨_, rfl, ?_⟩) | ((with_reducible refine gate_callee (f := 23) rfl ?_); refine goesL_ _ rfl rfl Tryd.func23 (by kernel_rfl) rfl #[.int .i64 a0, .int .u64 a3] rfl (by (try simp only [List.map_toArray, List.map_cons, List.map_nil]); first | done | rfl | (simp only [List.length_drop, List.length_take]; rfl)) ?_; (with_reducible refine (num_wide_signed.calls a0 a3 t102 _ A6.out).mono ?_); rintro e w' ⟨rfl, ⟨nd, rfl⟩⟩; refine ⟨_, rfl, ?_⟩))
                    go_ret
                    exact ⟨by first | rfl | (simp; done) | (simp [*]; done), by repeat (first | exact Drawn0.refl _ | apply Drawn0.step)⟩
                  · rw [if_neg c15] at H
                    have c15b0 : (((a1 - 70) % 256) == 8) = false := beq_eq_false_iff_ne.mpr c15
                    have c15b1 : (((a1 - 70) % 256) != 8) = true := bne_iff_ne.mpr c15
                    obtain rfl := Option.some.inj H
                    go_enter Tryd.func20, Tryd.ntmps20
                    go_wp2_with (first | ((with_reducible refine gate_callee (f := 23) rfl ?_); refine goesL_ _ rfl rfl Tryd.func23 (by kernel_rfl) rfl #[.int .i64 a0, .int .u64 a2] rfl (by (try simp only [List.map_toArray, List.map_cons, List.map_nil]); first | done | rfl | (simp only [List.length_drop, List.length_take]; rfl)) ?_; (with_reducible refine (num_wide_signed.calls a0 a2 t101 _ A5.out).mono ?_); rintro e w' ⟨rfl, ⟨nd, rfl⟩⟩; refine ⟨_, rfl, ?_⟩) | ((with_reducible refine gate_callee (f := 23) rfl ?_); refine goesL_ _ rfl rfl Tryd.func23 (by kernel_rfl) rfl #[.int .i64 a0, .int .u64 a3] rfl (by (try simp only [List.map_toArray, List.map_cons, List.map_nil]); first | done | rfl | (simp only [List.length_drop, List.length_take]; rfl)) ?_; (with_reducible refine (num_wide_signed.calls a0 a3 t102 _ A6.out).mono ?_); rintro e w' ⟨rfl, ⟨nd, rfl⟩⟩; refine ⟨_, rfl, ?_⟩))
                    go_ret
                    exact ⟨by first | rfl | (simp; done) | (simp [*]; done), by repeat (first | exact Drawn0.refl _ | apply Drawn0.step)⟩

/-! ### num_wide_parts: function 34 -/
def num_wide_parts.j0 : Nat → Int → Int → Int → Int → Bool → Option (Int × Int)
  | 0, _, _, _, _, _ => none
  | k + 1, x0, x1, x10, x11, x33 => if x33 = true then (if 0 ≤ (wrap64 (x0 - 1)) then (if x10 = (shl .i64 (-1) (wrap64 (x0 - 1))) then (some (0, 3)) else (some (IntKind.u64.wrap (wrap64 (-x10)), 0))) else (none)) else (if x11 = (-1) then (some (0, 0)) else (if x1 = 109 then (if x11 = 0 then (none) else (some (IntKind.u64.wrap (wrap64 (Int.tdiv x10 x11)), 0))) else (if x11 = 0 then (none) else (some (IntKind.u64.wrap (Int.tmod x10 x11), 0)))))
def num_wide_parts.f (k : Nat) (a0 : Int) (a1 : Int) (a2 : Int) (a3 : Int) : Option (Int × Int) := (num_wide_signed.f a0 a2).bind fun t103 => ((num_wide_signed.f a0 a3).bind fun t104 => (if a3 = 0 then (some (0, 2)) else (if a1 = 110 then (some (IntKind.u64.wrap (Int.tdiv a2 a3), 0)) else (if a1 = 112 then (some (Int.tmod a2 a3, 0)) else (if t104 = (-1) then (num_wide_parts.j0 k a0 a1 t103 t104 (a1 == 109)) else (num_wide_parts.j0 k a0 a1 t103 t104 false))))))
theorem num_wide_parts.mono_l : ∀ k, (∀ y0 y1 y2 y3 y4, LeO (num_wide_parts.j0 k y0 y1 y2 y3 y4) (num_wide_parts.j0 (k + 1) y0 y1 y2 y3 y4))
  | 0 => fun _ _ _ _ _ r h => by simp [num_wide_parts.j0] at h
  | k + 1 => by
    have ih0 := num_wide_parts.mono_l k
    · intro y0 y1 y2 y3 y4
      unfold num_wide_parts.j0
      repeat' first
      | (with_reducible exact ih0 _ _ _ _ _)
      | (with_reducible exact LeO.refl _)
      | (with_reducible exact LeO.none _)
      | (with_reducible refine LeO.ite ?_ ?_)
      | (with_reducible refine LeO.bind ?_ (fun _ => ?_))
      | exact ih0 _ _ _ _ _
      | exact LeO.none _
      | refine LeO.ite ?_ ?_
      | refine LeO.bind ?_ (fun _ => ?_)
theorem num_wide_parts.mono : ∀ a0 a1 a2 a3 k, LeO (num_wide_parts.f k a0 a1 a2 a3) (num_wide_parts.f (k + 1) a0 a1 a2 a3) := by
  intro a0 a1 a2 a3 k
  have ih0 := num_wide_parts.mono_l k
  unfold num_wide_parts.f
  repeat' first
      | (with_reducible exact ih0 _ _ _ _ _)
      | (with_reducible exact LeO.refl _)
      | (with_reducible exact LeO.none _)
      | (with_reducible refine LeO.ite ?_ ?_)
      | (with_reducible refine LeO.bind ?_ (fun _ => ?_))
      | exact ih0 _ _ _ _ _
      | exact LeO.none _
      | refine LeO.ite ?_ ?_
      | refine LeO.bind ?_ (fun _ => ?_)
set_option maxHeartbeats 8000000 in
set_option maxRecDepth 100000 in
theorem num_wide_parts.calls (k : Nat) (a0 : Int) (a1 : Int) (a2 : Int) (a3 : Int) (r1 : Int) (r2 : Int) (w : World) (h : num_wide_parts.f k a0 a1 a2 a3 = some (r1, r2)) :
    Calls Tryd.prog 34 #[.int .i64 a0, .int .u8 a1, .int .u64 a2, .int .u64 a3] w fun e w' => e = .returned (.tuple #[.int .u64 r1, .int .i64 r2]) ∧ Drawn0 w w' := by
  have H : ((num_wide_signed.f a0 a2).bind fun t103 => ((num_wide_signed.f a0 a3).bind fun t104 => (if a3 = 0 then (some (0, 2)) else (if a1 = 110 then (some (IntKind.u64.wrap (Int.tdiv a2 a3), 0)) else (if a1 = 112 then (some (Int.tmod a2 a3, 0)) else (if t104 = (-1) then (num_wide_parts.j0 k a0 a1 t103 t104 (a1 == 109)) else (num_wide_parts.j0 k a0 a1 t103 t104 false))))))) = some (r1, r2) := h
  clear h
  replace H := Option.bind_eq_some_iff.mp H
  obtain ⟨t103, A50, H⟩ := H
  replace H : ((num_wide_signed.f a0 a3).bind fun t104 => (if a3 = 0 then (some (0, 2)) else (if a1 = 110 then (some (IntKind.u64.wrap (Int.tdiv a2 a3), 0)) else (if a1 = 112 then (some (Int.tmod a2 a3, 0)) else (if t104 = (-1) then (num_wide_parts.j0 k a0 a1 t103 t104 (a1 == 109)) else (num_wide_parts.j0 k a0 a1 t103 t104 false)))))) = some (r1, r2) := H
  have A5 := Aside0.mk A50
  clear A50
  replace H := Option.bind_eq_some_iff.mp H
  obtain ⟨t104, A60, H⟩ := H
  replace H : (if a3 = 0 then (some (0, 2)) else (if a1 = 110 then (some (IntKind.u64.wrap (Int.tdiv a2 a3), 0)) else (if a1 = 112 then (some (Int.tmod a2 a3, 0)) else (if t104 = (-1) then (num_wide_parts.j0 k a0 a1 t103 t104 (a1 == 109)) else (num_wide_parts.j0 k a0 a1 t103 t104 false))))) = some (r1, r2) := H
  have A6 := Aside0.mk A60
  clear A60
  by_cases c7 : a3 = 0
  · rw [if_pos c7] at H
    have c7b0 : (a3 == 0) = true := beq_iff_eq.mpr c7
    have c7b1 : (a3 != 0) = false := bne_eq_false_iff_eq.mpr c7
    clear c7
    simp only [Option.some.injEq, Prod.mk.injEq] at H
    obtain ⟨rfl, rfl⟩ := H
    go_enter Tryd.func34, Tryd.ntmps34
    go_wp2_with (first | ((with_reducible refine gate_callee (f := 23) rfl ?_); refine goesL_ _ rfl rfl Tryd.func23 (by kernel_rfl) rfl #[.int .i64 a0, .int .u64 a2] rfl (by (try simp only [List.map_toArray, List.map_cons, List.map_nil]); first | done | rfl | (simp only [List.length_drop, List.length_take]; rfl)) ?_; (with_reducible refine (num_wide_signed.calls a0 a2 t103 _ A5.out).mono ?_); rintro e w' ⟨rfl, ⟨nd, rfl⟩⟩; refine ⟨_, rfl, ?_⟩) | ((with_reducible refine gate_callee (f := 23) rfl ?_); refine goesL_ _ rfl rfl Tryd.func23 (by kernel_rfl) rfl #[.int .i64 a0, .int .u64 a3] rfl (by (try simp only [List.map_toArray, List.map_cons, List.map_nil]); first | done | rfl | (simp only [List.length_drop, List.length_take]; rfl)) ?_; (with_reducible refine (num_wide_signed.calls a0 a3 t104 _ A6.out).mono ?_); rintro e w' ⟨rfl, ⟨nd, rfl⟩⟩; refine ⟨_, rfl, ?_⟩))
    go_ret2
    exact ⟨by first | rfl | (simp; done) | (simp [*]; done), by repeat (first | exact Drawn0.refl _ | apply Drawn0.step)⟩
  · rw [if_neg c7] at H
    have c7b0 : (a3 == 0) = false := beq_eq_false_iff_ne.mpr c7
    have c7b1 : (a3 != 0) = true := bne_iff_ne.mpr c7
    by_cases c8 : a1 = 110
    · rw [if_pos c8] at H
      have c8b0 : (a1 == 110) = true := beq_iff_eq.mpr c8
      have c8b1 : (a1 != 110) = false := bne_eq_false_iff_eq.mpr c8
      clear c8
      simp only [Option.some.injEq, Prod.mk.injEq] at H
      obtain ⟨rfl, rfl⟩ := H
      go_enter Tryd.func34, Tryd.ntmps34
      go_wp2_with (first | ((with_reducible refine gate_callee (f := 23) rfl ?_); refine goesL_ _ rfl rfl Tryd.func23 (by kernel_rfl) rfl #[.int .i64 a0, .int .u64 a2] rfl (by (try simp only [List.map_toArray, List.map_cons, List.map_nil]); first | done | rfl | (simp only [List.length_drop, List.length_take]; rfl)) ?_; (with_reducible refine (num_wide_signed.calls a0 a2 t103 _ A5.out).mono ?_); rintro e w' ⟨rfl, ⟨nd, rfl⟩⟩; refine ⟨_, rfl, ?_⟩) | ((with_reducible refine gate_callee (f := 23) rfl ?_); refine goesL_ _ rfl rfl Tryd.func23 (by kernel_rfl) rfl #[.int .i64 a0, .int .u64 a3] rfl (by (try simp only [List.map_toArray, List.map_cons, List.map_nil]); first | done | rfl | (simp only [List.length_drop, List.length_take]; rfl)) ?_; (with_reducible refine (num_wide_signed.calls a0 a3 t104 _ A6.out).mono ?_); rintro e w' ⟨rfl, ⟨nd, rfl⟩⟩; refine ⟨_, rfl, ?_⟩))
      go_ret2
      exact ⟨by first | rfl | (simp; done) | (simp [*]; done), by repeat (first | exact Drawn0.refl _ | apply Drawn0.step)⟩
    · rw [if_neg c8] at H
      have c8b0 : (a1 == 110) = false := beq_eq_false_iff_ne.mpr c8
      have c8b1 : (a1 != 110) = true := bne_iff_ne.mpr c8
      by_cases c9 : a1 = 112
      · rw [if_pos c9] at H
        have c9b0 : (a1 == 112) = true := beq_iff_eq.mpr c9
        have c9b1 : (a1 != 112) = false := bne_eq_false_iff_eq.mpr c9
        clear c9
        simp only [Option.some.injEq, Prod.mk.injEq] at H
        obtain ⟨rfl, rfl⟩ := H
        go_enter Tryd.func34, Tryd.ntmps34
        go_wp2_with (first | ((with_reducible refine gate_callee (f := 23) rfl ?_); refine goesL_ _ rfl rfl Tryd.func23 (by kernel_rfl) rfl #[.int .i64 a0, .int .u64 a2] rfl (by (try simp only [List.map_toArray, List.map_cons, List.map_nil]); first | done | rfl | (simp only [List.length_drop, List.length_take]; rfl)) ?_; (with_reducible refine (num_wide_signed.calls a0 a2 t103 _ A5.out).mono ?_); rintro e w' ⟨rfl, ⟨nd, rfl⟩⟩; refine ⟨_, rfl, ?_⟩) | ((with_reducible refine gate_callee (f := 23) rfl ?_); refine goesL_ _ rfl rfl Tryd.func23 (by kernel_rfl) rfl #[.int .i64 a0, .int .u64 a3] rfl (by (try simp only [List.map_toArray, List.map_cons, List.map_nil]); first | done | rfl | (simp only [List.length_drop, List.length_take]; rfl)) ?_; (with_reducible refine (num_wide_signed.calls a0 a3 t104 _ A6.out).mono ?_); rintro e w' ⟨rfl, ⟨nd, rfl⟩⟩; refine ⟨_, rfl, ?_⟩))
        go_ret2
        exact ⟨by first | rfl | (simp; done) | (simp [*]; done), by repeat (first | exact Drawn0.refl _ | apply Drawn0.step)⟩
      · rw [if_neg c9] at H
        have c9b0 : (a1 == 112) = false := beq_eq_false_iff_ne.mpr c9
        have c9b1 : (a1 != 112) = true := bne_iff_ne.mpr c9
        have HC10 := Aside0.mk H
        clear H
        go_enter Tryd.func34, Tryd.ntmps34
        go_upto_region 8 with (first | ((with_reducible refine gate_callee (f := 23) rfl ?_); refine goesL_ _ rfl rfl Tryd.func23 (by kernel_rfl) rfl #[.int .i64 a0, .int .u64 a2] rfl (by (try simp only [List.map_toArray, List.map_cons, List.map_nil]); first | done | rfl | (simp only [List.length_drop, List.length_take]; rfl)) ?_; (with_reducible refine (num_wide_signed.calls a0 a2 t103 _ A5.out).mono ?_); rintro e w' ⟨rfl, ⟨nd, rfl⟩⟩; refine ⟨_, rfl, ?_⟩) | ((with_reducible refine gate_callee (f := 23) rfl ?_); refine goesL_ _ rfl rfl Tryd.func23 (by kernel_rfl) rfl #[.int .i64 a0, .int .u64 a3] rfl (by (try simp only [List.map_toArray, List.map_cons, List.map_nil]); first | done | rfl | (simp only [List.length_drop, List.length_take]; rfl)) ?_; (with_reducible refine (num_wide_signed.calls a0 a3 t104 _ A6.out).mono ?_); rintro e w' ⟨rfl, ⟨nd, rfl⟩⟩; refine ⟨_, rfl, ?_⟩))
        (try simp only [Act.put, List.setIfInBounds_toArray, List.set_cons_zero, List.set_cons_succ])
        go_cut [33] (fun v33 wc => ∃ (kq : Nat) (x33_9 : Bool), v33 = .bool x33_9 ∧ Aside0 (num_wide_parts.j0 kq a0 a1 t103 t104 x33_9 = some (r1, r2)) ∧ Aside0 (kq ≤ k) ∧ Drawn0 w wc)
        case first =>
          have H := HC10.out
          clear HC10
          by_cases c11 : t104 = (-1)
          · rw [if_pos c11] at H
            have c11b0 : (t104 == (-1)) = true := beq_iff_eq.mpr c11
            have c11b1 : (t104 != (-1)) = false := bne_eq_false_iff_eq.mpr c11
            clear c11
            (first | rw [c11b0] | (simp only [i64_w, i32_w]; rw [c11b0]) | skip)
            have H' := Aside0.mk H
            clear H
            go_wp2
            go_meet
            case rel => exact ⟨_, ((a1 == 109)), (by first | rfl | (simp; done) | (simp [*]; done)), H', ⟨by first | omega | exact Nat.le_refl _⟩, by repeat (first | exact Drawn0.refl _ | apply Drawn0.step)⟩
          · rw [if_neg c11] at H
            have c11b0 : (t104 == (-1)) = false := beq_eq_false_iff_ne.mpr c11
            have c11b1 : (t104 != (-1)) = true := bne_iff_ne.mpr c11
            (first | rw [c11b0] | (simp only [i64_w, i32_w]; rw [c11b0]) | skip)
            have H' := Aside0.mk H
            clear H
            go_wp2
            go_meet
            case rel => exact ⟨_, (false), (by first | rfl | (simp; done) | (simp [*]; done)), H', ⟨by first | omega | exact Nat.le_refl _⟩, by repeat (first | exact Drawn0.refl _ | apply Drawn0.step)⟩
        case rest =>
          clear HC10
          try clear c1
          try clear c2
          try clear p2
          try clear c3
          try clear c7
          try clear c7b0
          try clear c7b1
          try clear c8
          try clear c8b0
          try clear c8b1
          try clear c9
          try clear c9b0
          try clear c9b1
          try clear c11
          try clear c11b0
          try clear c11b1
          obtain ⟨kq, x33_9, rfl, HA, HJ9, ⟨mc9, rfl⟩⟩ := hcut
          cases kq with
          | zero => exact absurd HA.out (by simp [num_wide_parts.j0])
          | succ kj9 =>
            have H := HA.out
            clear HA
            simp only [num_wide_parts.j0] at H
            by_cases c12 : x33_9 = true
            · subst c12
              have H1 : (if 0 ≤ (wrap64 (a0 - 1)) then (if t103 = (shl .i64 (-1) (wrap64 (a0 - 1))) then (some (0, 3)) else (some (IntKind.u64.wrap (wrap64 (-t103)), 0))) else (none)) = some (r1, r2) := by rw [if_pos rfl] at H; exact H
              clear H
              have H := H1
              clear H1
              obtain ⟨ji13, hji13⟩ : ∃ j_ : Int, (wrap64 (a0 - 1)) = j_ := ⟨_, rfl⟩
              replace H : (if 0 ≤ (ji13) then (if t103 = (shl .i64 (-1) (ji13)) then (some (0, 3)) else (some (IntKind.u64.wrap (wrap64 (-t103)), 0))) else (none)) = some (r1, r2) := by first | (rw [hji13] at H; exact H) | (simp only [hji13] at H ⊢; exact H)
              have hji13w : (IntKind.i64.wrap (a0 - 1)) = ji13 := (i64_w _).trans hji13
              by_cases c14 : 0 ≤ (ji13)
              · rw [if_pos c14] at H
                have c14b0 := eq_true c14
                have c14b1 : decide (0 ≤ (ji13)) = true := decide_eq_true c14
                clear c14
                obtain ⟨ji15, hji15⟩ : ∃ j_ : Int, (shl .i64 (-1) (ji13)) = j_ := ⟨_, rfl⟩
                replace H : (if t103 = (ji15) then (some (0, 3)) else (some (IntKind.u64.wrap (wrap64 (-t103)), 0))) = some (r1, r2) := by first | (rw [hji15] at H; exact H) | (simp only [hji15] at H ⊢; exact H)
                have hji15_ : (IntKind.i64.wrap ((-1) * 2 ^ min (ji13).toNat 64)) = ji15 := hji15
                have hji15z : (ji13) ≤ 64 → (IntKind.i64.wrap ((-1) * 2 ^ (ji13).toNat)) = ji15 := shl_small hji15
                have hji15y : (wrap64 ((-1) * 2 ^ min (ji13).toNat 64)) = ji15 := (i64_w _).symm.trans hji15_
                have hji15x : (ji13) ≤ 64 → (wrap64 ((-1) * 2 ^ (ji13).toNat)) = ji15 := fun h_ => (i64_w _).symm.trans (hji15z h_)
                have hji15n : (wrap64 (-2 ^ min (ji13).toNat 64)) = ji15 := by have h_ := hji15y; rw [Int.neg_one_mul] at h_; exact h_
                by_cases c16 : t103 = (ji15)
                · rw [if_pos c16] at H
                  have c16b0 : (t103 == (ji15)) = true := beq_iff_eq.mpr c16
                  have c16b1 : (t103 != (ji15)) = false := bne_eq_false_iff_eq.mpr c16
                  clear c16
                  simp only [Option.some.injEq, Prod.mk.injEq] at H
                  obtain ⟨rfl, rfl⟩ := H
                  go_wp2
                  go_ret2
                  exact ⟨by first | rfl | (simp; done) | (simp only [← hji13, ← hji15] <;> (first | rfl | simp)) | (simp [*]; done), by repeat (first | exact Drawn0.refl _ | apply Drawn0.step)⟩
                · rw [if_neg c16] at H
                  have c16b0 : (t103 == (ji15)) = false := beq_eq_false_iff_ne.mpr c16
                  have c16b1 : (t103 != (ji15)) = true := bne_iff_ne.mpr c16
                  simp only [Option.some.injEq, Prod.mk.injEq] at H
                  obtain ⟨rfl, rfl⟩ := H
                  go_wp2
                  go_ret2
                  exact ⟨by first | rfl | (simp; done) | (simp only [← hji13, ← hji15] <;> (first | rfl | simp)) | (simp [*]; done), by repeat (first | exact Drawn0.refl _ | apply Drawn0.step)⟩
              · rw [if_neg c14] at H
                exact absurd H (by simp)
            · replace c12 := Bool.eq_false_iff.mpr c12
              subst c12
              have H1 : (if t104 = (-1) then (some (0, 0)) else (if a1 = 109 then (if t104 = 0 then (none) else (some (IntKind.u64.wrap (wrap64 (Int.tdiv t103 t104)), 0))) else (if t104 = 0 then (none) else (some (IntKind.u64.wrap (Int.tmod t103 t104), 0))))) = some (r1, r2) := by rw [if_neg (show ¬ (false = true) by decide)] at H; exact H
              clear H
              have H := H1
              clear H1
              by_cases c17 : t104 = (-1)
              · rw [if_pos c17] at H
                have c17b0 : (t104 == (-1)) = true := beq_iff_eq.mpr c17
                have c17b1 : (t104 != (-1)) = false := bne_eq_false_iff_eq.mpr c17
                clear c17
                simp only [Option.some.injEq, Prod.mk.injEq] at H
                obtain ⟨rfl, rfl⟩ := H
                go_wp2
                go_ret2
                exact ⟨by first | rfl | (simp; done) | (simp [*]; done), by repeat (first | exact Drawn0.refl _ | apply Drawn0.step)⟩
              · rw [if_neg c17] at H
                have c17b0 : (t104 == (-1)) = false := beq_eq_false_iff_ne.mpr c17
                have c17b1 : (t104 != (-1)) = true := bne_iff_ne.mpr c17
                by_cases c18 : a1 = 109
                · rw [if_pos c18] at H
                  have c18b0 : (a1 == 109) = true := beq_iff_eq.mpr c18
                  have c18b1 : (a1 != 109) = false := bne_eq_false_iff_eq.mpr c18
                  clear c18
                  by_cases c19 : t104 = 0
                  · rw [if_pos c19] at H
                    exact absurd H (by simp)
                  · rw [if_neg c19] at H
                    have c19b0 : (t104 == 0) = false := beq_eq_false_iff_ne.mpr c19
                    have c19b1 : (t104 != 0) = true := bne_iff_ne.mpr c19
                    simp only [Option.some.injEq, Prod.mk.injEq] at H
                    obtain ⟨rfl, rfl⟩ := H
                    go_wp2
                    go_ret2
                    exact ⟨by first | rfl | (simp; done) | (simp [*]; done), by repeat (first | exact Drawn0.refl _ | apply Drawn0.step)⟩
                · rw [if_neg c18] at H
                  have c18b0 : (a1 == 109) = false := beq_eq_false_iff_ne.mpr c18
                  have c18b1 : (a1 != 109) = true := bne_iff_ne.mpr c18
                  by_cases c20 : t104 = 0
                  · rw [if_pos c20] at H
                    exact absurd H (by simp)
                  · rw [if_neg c20] at H
                    have c20b0 : (t104 == 0) = false := beq_eq_false_iff_ne.mpr c20
                    have c20b1 : (t104 != 0) = true := bne_iff_ne.mpr c20
                    simp only [Option.some.injEq, Prod.mk.injEq] at H
                    obtain ⟨rfl, rfl⟩ := H
                    go_wp2
                    go_ret2
                    exact ⟨by first | rfl | (simp; done) | (simp [*]; done), by repeat (first | exact Drawn0.refl _ | apply Drawn0.step)⟩

/-! ### num_wide_turn: function 35 -/
def num_wide_turn.f (a0 : Int) (a1 : Int) (a2 : Int) (a3 : Int) : Option (Int) := if (IntKind.u64.wrap (a0)) = 0 then (none) else (if a1 = 116 then (if 0 ≤ (Int.tmod a3 (IntKind.u64.wrap (a0))) then (some (shl .u64 a2 (Int.tmod a3 (IntKind.u64.wrap (a0))))) else (none)) else (if a1 = 117 then ((num_wide_signed.f a0 a2).bind fun t105 => (if 0 ≤ (Int.tmod a3 (IntKind.u64.wrap (a0))) then (some (IntKind.u64.wrap (shr .i64 t105 (Int.tmod a3 (IntKind.u64.wrap (a0)))))) else (none))) else (if a1 = 118 then (if 0 ≤ (Int.tmod a3 (IntKind.u64.wrap (a0))) then (some (shr .u64 a2 (Int.tmod a3 (IntKind.u64.wrap (a0))))) else (none)) else (if a1 = 120 then (if 0 ≤ (Int.tmod (IntKind.u64.wrap ((IntKind.u64.wrap (a0)) - (Int.tmod a3 (IntKind.u64.wrap (a0))))) (IntKind.u64.wrap (a0))) then (if 0 ≤ (IntKind.u64.wrap ((IntKind.u64.wrap (a0)) - (Int.tmod (IntKind.u64.wrap ((IntKind.u64.wrap (a0)) - (Int.tmod a3 (IntKind.u64.wrap (a0))))) (IntKind.u64.wrap (a0))))) then (some (Go.bits .or .u64 (shl .u64 a2 (Int.tmod (IntKind.u64.wrap ((IntKind.u64.wrap (a0)) - (Int.tmod a3 (IntKind.u64.wrap (a0))))) (IntKind.u64.wrap (a0)))) (shr .u64 a2 (IntKind.u64.wrap ((IntKind.u64.wrap (a0)) - (Int.tmod (IntKind.u64.wrap ((IntKind.u64.wrap (a0)) - (Int.tmod a3 (IntKind.u64.wrap (a0))))) (IntKind.u64.wrap (a0)))))))) else (none)) else (none)) else (if 0 ≤ (Int.tmod a3 (IntKind.u64.wrap (a0))) then (if 0 ≤ (IntKind.u64.wrap ((IntKind.u64.wrap (a0)) - (Int.tmod a3 (IntKind.u64.wrap (a0))))) then (some (Go.bits .or .u64 (shl .u64 a2 (Int.tmod a3 (IntKind.u64.wrap (a0)))) (shr .u64 a2 (IntKind.u64.wrap ((IntKind.u64.wrap (a0)) - (Int.tmod a3 (IntKind.u64.wrap (a0)))))))) else (none)) else (none))))))
set_option maxHeartbeats 8000000 in
set_option maxRecDepth 100000 in
theorem num_wide_turn.calls (a0 : Int) (a1 : Int) (a2 : Int) (a3 : Int) (r : Int) (w : World) (h : num_wide_turn.f a0 a1 a2 a3 = some r) :
    Calls Tryd.prog 35 #[.int .i64 a0, .int .u8 a1, .int .u64 a2, .int .u64 a3] w fun e w' => e = .returned (.int .u64 r) ∧ Drawn0 w w' := by
  have H : (if (IntKind.u64.wrap (a0)) = 0 then (none) else (if a1 = 116 then (if 0 ≤ (Int.tmod a3 (IntKind.u64.wrap (a0))) then (some (shl .u64 a2 (Int.tmod a3 (IntKind.u64.wrap (a0))))) else (none)) else (if a1 = 117 then ((num_wide_signed.f a0 a2).bind fun t105 => (if 0 ≤ (Int.tmod a3 (IntKind.u64.wrap (a0))) then (some (IntKind.u64.wrap (shr .i64 t105 (Int.tmod a3 (IntKind.u64.wrap (a0)))))) else (none))) else (if a1 = 118 then (if 0 ≤ (Int.tmod a3 (IntKind.u64.wrap (a0))) then (some (shr .u64 a2 (Int.tmod a3 (IntKind.u64.wrap (a0))))) else (none)) else (if a1 = 120 then (if 0 ≤ (Int.tmod (IntKind.u64.wrap ((IntKind.u64.wrap (a0)) - (Int.tmod a3 (IntKind.u64.wrap (a0))))) (IntKind.u64.wrap (a0))) then (if 0 ≤ (IntKind.u64.wrap ((IntKind.u64.wrap (a0)) - (Int.tmod (IntKind.u64.wrap ((IntKind.u64.wrap (a0)) - (Int.tmod a3 (IntKind.u64.wrap (a0))))) (IntKind.u64.wrap (a0))))) then (some (Go.bits .or .u64 (shl .u64 a2 (Int.tmod (IntKind.u64.wrap ((IntKind.u64.wrap (a0)) - (Int.tmod a3 (IntKind.u64.wrap (a0))))) (IntKind.u64.wrap (a0)))) (shr .u64 a2 (IntKind.u64.wrap ((IntKind.u64.wrap (a0)) - (Int.tmod (IntKind.u64.wrap ((IntKind.u64.wrap (a0)) - (Int.tmod a3 (IntKind.u64.wrap (a0))))) (IntKind.u64.wrap (a0)))))))) else (none)) else (none)) else (if 0 ≤ (Int.tmod a3 (IntKind.u64.wrap (a0))) then (if 0 ≤ (IntKind.u64.wrap ((IntKind.u64.wrap (a0)) - (Int.tmod a3 (IntKind.u64.wrap (a0))))) then (some (Go.bits .or .u64 (shl .u64 a2 (Int.tmod a3 (IntKind.u64.wrap (a0)))) (shr .u64 a2 (IntKind.u64.wrap ((IntKind.u64.wrap (a0)) - (Int.tmod a3 (IntKind.u64.wrap (a0)))))))) else (none)) else (none))))))) = some r := h
  clear h
  by_cases c5 : (IntKind.u64.wrap (a0)) = 0
  · rw [if_pos c5] at H
    exact absurd H (by simp)
  · rw [if_neg c5] at H
    have c5b0 : ((IntKind.u64.wrap (a0)) == 0) = false := beq_eq_false_iff_ne.mpr c5
    have c5b1 : ((IntKind.u64.wrap (a0)) != 0) = true := bne_iff_ne.mpr c5
    by_cases c6 : a1 = 116
    · rw [if_pos c6] at H
      have c6b0 : (a1 == 116) = true := beq_iff_eq.mpr c6
      have c6b1 : (a1 != 116) = false := bne_eq_false_iff_eq.mpr c6
      clear c6
      obtain ⟨ji7, hji7⟩ : ∃ j_ : Int, (Int.tmod a3 (IntKind.u64.wrap (a0))) = j_ := ⟨_, rfl⟩
      replace H : (if 0 ≤ (ji7) then (some (shl .u64 a2 (ji7))) else (none)) = some r := by first | (rw [hji7] at H; exact H) | (simp only [hji7] at H ⊢; exact H)
      by_cases c8 : 0 ≤ (ji7)
      · rw [if_pos c8] at H
        have c8b0 := eq_true c8
        have c8b1 : decide (0 ≤ (ji7)) = true := decide_eq_true c8
        clear c8
        obtain ⟨ji9, hji9⟩ : ∃ j_ : Int, (shl .u64 a2 (ji7)) = j_ := ⟨_, rfl⟩
        replace H : (some ji9) = some r := by first | (rw [hji9] at H; exact H) | (simp only [hji9] at H ⊢; exact H)
        have hji9_ : (IntKind.u64.wrap (a2 * 2 ^ min (ji7).toNat 64)) = ji9 := hji9
        have hji9z : (ji7) ≤ 64 → (IntKind.u64.wrap (a2 * 2 ^ (ji7).toNat)) = ji9 := shl_small hji9
        obtain rfl := Option.some.inj H
        go_enter Tryd.func35, Tryd.ntmps35
        go_wp2
        go_ret
        exact ⟨by first | rfl | (simp; done) | (simp only [← hji7, ← hji9] <;> (first | rfl | simp)) | (simp [*]; done), by repeat (first | exact Drawn0.refl _ | apply Drawn0.step)⟩
      · rw [if_neg c8] at H
        exact absurd H (by simp)
    · rw [if_neg c6] at H
      have c6b0 : (a1 == 116) = false := beq_eq_false_iff_ne.mpr c6
      have c6b1 : (a1 != 116) = true := bne_iff_ne.mpr c6
      by_cases c10 : a1 = 117
      · rw [if_pos c10] at H
        have c10b0 : (a1 == 117) = true := beq_iff_eq.mpr c10
        have c10b1 : (a1 != 117) = false := bne_eq_false_iff_eq.mpr c10
        clear c10
        replace H := Option.bind_eq_some_iff.mp H
        obtain ⟨t105, A110, H⟩ := H
        replace H : (if 0 ≤ (Int.tmod a3 (IntKind.u64.wrap (a0))) then (some (IntKind.u64.wrap (shr .i64 t105 (Int.tmod a3 (IntKind.u64.wrap (a0)))))) else (none)) = some r := H
        have A11 := Aside0.mk A110
        clear A110
        obtain ⟨ji12, hji12⟩ : ∃ j_ : Int, (Int.tmod a3 (IntKind.u64.wrap (a0))) = j_ := ⟨_, rfl⟩
        replace H : (if 0 ≤ (ji12) then (some (IntKind.u64.wrap (shr .i64 t105 (ji12)))) else (none)) = some r := by first | (rw [hji12] at H; exact H) | (simp only [hji12] at H ⊢; exact H)
        (try rw [hji12] at A11)
        by_cases c13 : 0 ≤ (ji12)
        · rw [if_pos c13] at H
          have c13b0 := eq_true c13
          have c13b1 : decide (0 ≤ (ji12)) = true := decide_eq_true c13
          clear c13
          obtain ⟨ji14, hji14⟩ : ∃ j_ : Int, (shr .i64 t105 (ji12)) = j_ := ⟨_, rfl⟩
          replace H : (some (IntKind.u64.wrap (ji14))) = some r := by first | (rw [hji14] at H; exact H) | (simp only [hji14] at H ⊢; exact H)
          (try rw [hji14] at A11)
          have hji14_ : (t105 / 2 ^ min (ji12).toNat 64) = ji14 := hji14
          have hji14z : (ji12) ≤ 64 → (t105 / 2 ^ (ji12).toNat) = ji14 := shr_small hji14
          obtain rfl := Option.some.inj H
          go_enter Tryd.func35, Tryd.ntmps35
          go_wp2_with (first | ((with_reducible refine gate_callee (f := 23) rfl ?_); refine goesL_ _ rfl rfl Tryd.func23 (by kernel_rfl) rfl #[.int .i64 a0, .int .u64 a2] rfl (by (try simp only [List.map_toArray, List.map_cons, List.map_nil]); first | done | rfl | (simp only [List.length_drop, List.length_take]; rfl)) ?_; (with_reducible refine (num_wide_signed.calls a0 a2 t105 _ A11.out).mono ?_); rintro e w' ⟨rfl, ⟨nd, rfl⟩⟩; refine ⟨_, rfl, ?_⟩))
          go_ret
          exact ⟨by first | rfl | (simp; done) | (simp only [← hji12, ← hji14] <;> (first | rfl | simp)) | (simp [*]; done), by repeat (first | exact Drawn0.refl _ | apply Drawn0.step)⟩
        · rw [if_neg c13] at H
          exact absurd H (by simp)
      · rw [if_neg c10] at H
        have c10b0 : (a1 == 117) = false := beq_eq_false_iff_ne.mpr c10
        have c10b1 : (a1 != 117) = true := bne_iff_ne.mpr c10
        by_cases c15 : a1 = 118
        · rw [if_pos c15] at H
          have c15b0 : (a1 == 118) = true := beq_iff_eq.mpr c15
          have c15b1 : (a1 != 118) = false := bne_eq_false_iff_eq.mpr c15
          clear c15
          obtain ⟨ji16, hji16⟩ : ∃ j_ : Int, (Int.tmod a3 (IntKind.u64.wrap (a0))) = j_ := ⟨_, rfl⟩
          replace H : (if 0 ≤ (ji16) then (some (shr .u64 a2 (ji16))) else (none)) = some r := by first | (rw [hji16] at H; exact H) | (simp only [hji16] at H ⊢; exact H)
          by_cases c17 : 0 ≤ (ji16)
          · rw [if_pos c17] at H
            have c17b0 := eq_true c17
            have c17b1 : decide (0 ≤ (ji16)) = true := decide_eq_true c17
            clear c17
            obtain ⟨ji18, hji18⟩ : ∃ j_ : Int, (shr .u64 a2 (ji16)) = j_ := ⟨_, rfl⟩
            replace H : (some ji18) = some r := by first | (rw [hji18] at H; exact H) | (simp only [hji18] at H ⊢; exact H)
            have hji18_ : (a2 / 2 ^ min (ji16).toNat 64) = ji18 := hji18
            have hji18z : (ji16) ≤ 64 → (a2 / 2 ^ (ji16).toNat) = ji18 := shr_small hji18
            obtain rfl := Option.some.inj H
            go_enter Tryd.func35, Tryd.ntmps35
            go_wp2
            go_ret
            exact ⟨by first | rfl | (simp; done) | (simp only [← hji16, ← hji18] <;> (first | rfl | simp)) | (simp [*]; done), by repeat (first | exact Drawn0.refl _ | apply Drawn0.step)⟩
          · rw [if_neg c17] at H
            exact absurd H (by simp)
        · rw [if_neg c15] at H
          have c15b0 : (a1 == 118) = false := beq_eq_false_iff_ne.mpr c15
          have c15b1 : (a1 != 118) = true := bne_iff_ne.mpr c15
          by_cases c19 : a1 = 120
          · rw [if_pos c19] at H
            have c19b0 : (a1 == 120) = true := beq_iff_eq.mpr c19
            have c19b1 : (a1 != 120) = false := bne_eq_false_iff_eq.mpr c19
            clear c19
            obtain ⟨ji20, hji20⟩ : ∃ j_ : Int, (Int.tmod (IntKind.u64.wrap ((IntKind.u64.wrap (a0)) - (Int.tmod a3 (IntKind.u64.wrap (a0))))) (IntKind.u64.wrap (a0))) = j_ := ⟨_, rfl⟩
            replace H : (if 0 ≤ (ji20) then (if 0 ≤ (IntKind.u64.wrap ((IntKind.u64.wrap (a0)) - (ji20))) then (some (Go.bits .or .u64 (shl .u64 a2 (ji20)) (shr .u64 a2 (IntKind.u64.wrap ((IntKind.u64.wrap (a0)) - (ji20)))))) else (none)) else (none)) = some r := by first | (rw [hji20] at H; exact H) | (simp only [hji20] at H ⊢; exact H)
            by_cases c21 : 0 ≤ (ji20)
            · rw [if_pos c21] at H
              have c21b0 := eq_true c21
              have c21b1 : decide (0 ≤ (ji20)) = true := decide_eq_true c21
              clear c21
              obtain ⟨ji22, hji22⟩ : ∃ j_ : Int, (shl .u64 a2 (ji20)) = j_ := ⟨_, rfl⟩
              replace H : (if 0 ≤ (IntKind.u64.wrap ((IntKind.u64.wrap (a0)) - (ji20))) then (some (Go.bits .or .u64 (ji22) (shr .u64 a2 (IntKind.u64.wrap ((IntKind.u64.wrap (a0)) - (ji20)))))) else (none)) = some r := by first | (rw [hji22] at H; exact H) | (simp only [hji22] at H ⊢; exact H)
              have hji22_ : (IntKind.u64.wrap (a2 * 2 ^ min (ji20).toNat 64)) = ji22 := hji22
              have hji22z : (ji20) ≤ 64 → (IntKind.u64.wrap (a2 * 2 ^ (ji20).toNat)) = ji22 := shl_small hji22
              obtain ⟨ji23, hji23⟩ : ∃ j_ : Int, (IntKind.u64.wrap ((IntKind.u64.wrap (a0)) - (ji20))) = j_ := ⟨_, rfl⟩
              replace H : (if 0 ≤ (ji23) then (some (Go.bits .or .u64 (ji22) (shr .u64 a2 (ji23)))) else (none)) = some r := by first | (rw [hji23] at H; exact H) | (simp only [hji23] at H ⊢; exact H)
              by_cases c24 : 0 ≤ (ji23)
              · rw [if_pos c24] at H
                have c24b0 := eq_true c24
                have c24b1 : decide (0 ≤ (ji23)) = true := decide_eq_true c24
                clear c24
                obtain ⟨ji25, hji25⟩ : ∃ j_ : Int, (shr .u64 a2 (ji23)) = j_ := ⟨_, rfl⟩
                replace H : (some (Go.bits .or .u64 (ji22) (ji25))) = some r := by first | (rw [hji25] at H; exact H) | (simp only [hji25] at H ⊢; exact H)
                have hji25_ : (a2 / 2 ^ min (ji23).toNat 64) = ji25 := hji25
                have hji25z : (ji23) ≤ 64 → (a2 / 2 ^ (ji23).toNat) = ji25 := shr_small hji25
                obtain rfl := Option.some.inj H
                go_enter Tryd.func35, Tryd.ntmps35
                go_wp2
                go_ret
                exact ⟨by first | rfl | (simp; done) | (simp only [← hji20, ← hji22, ← hji23, ← hji25] <;> (first | rfl | simp)) | (simp [*]; done), by repeat (first | exact Drawn0.refl _ | apply Drawn0.step)⟩
              · rw [if_neg c24] at H
                exact absurd H (by simp)
            · rw [if_neg c21] at H
              exact absurd H (by simp)
          · rw [if_neg c19] at H
            have c19b0 : (a1 == 120) = false := beq_eq_false_iff_ne.mpr c19
            have c19b1 : (a1 != 120) = true := bne_iff_ne.mpr c19
            obtain ⟨ji26, hji26⟩ : ∃ j_ : Int, (Int.tmod a3 (IntKind.u64.wrap (a0))) = j_ := ⟨_, rfl⟩
            replace H : (if 0 ≤ (ji26) then (if 0 ≤ (IntKind.u64.wrap ((IntKind.u64.wrap (a0)) - (ji26))) then (some (Go.bits .or .u64 (shl .u64 a2 (ji26)) (shr .u64 a2 (IntKind.u64.wrap ((IntKind.u64.wrap (a0)) - (ji26)))))) else (none)) else (none)) = some r := by first | (rw [hji26] at H; exact H) | (simp only [hji26] at H ⊢; exact H)
            by_cases c27 : 0 ≤ (ji26)
            · rw [if_pos c27] at H
              have c27b0 := eq_true c27
              have c27b1 : decide (0 ≤ (ji26)) = true := decide_eq_true c27
              clear c27
              obtain ⟨ji28, hji28⟩ : ∃ j_ : Int, (shl .u64 a2 (ji26)) = j_ := ⟨_, rfl⟩
              replace H : (if 0 ≤ (IntKind.u64.wrap ((IntKind.u64.wrap (a0)) - (ji26))) then (some (Go.bits .or .u64 (ji28) (shr .u64 a2 (IntKind.u64.wrap ((IntKind.u64.wrap (a0)) - (ji26)))))) else (none)) = some r := by first | (rw [hji28] at H; exact H) | (simp only [hji28] at H ⊢; exact H)
              have hji28_ : (IntKind.u64.wrap (a2 * 2 ^ min (ji26).toNat 64)) = ji28 := hji28
              have hji28z : (ji26) ≤ 64 → (IntKind.u64.wrap (a2 * 2 ^ (ji26).toNat)) = ji28 := shl_small hji28
              obtain ⟨ji29, hji29⟩ : ∃ j_ : Int, (IntKind.u64.wrap ((IntKind.u64.wrap (a0)) - (ji26))) = j_ := ⟨_, rfl⟩
              replace H : (if 0 ≤ (ji29) then (some (Go.bits .or .u64 (ji28) (shr .u64 a2 (ji29)))) else (none)) = some r := by first | (rw [hji29] at H; exact H) | (simp only [hji29] at H ⊢; exact H)
              by_cases c30 : 0 ≤ (ji29)
              · rw [if_pos c30] at H
                have c30b0 := eq_true c30
                have c30b1 : decide (0 ≤ (ji29)) = true := decide_eq_true c30
                clear c30
                obtain ⟨ji31, hji31⟩ : ∃ j_ : Int, (shr .u64 a2 (ji29)) = j_ := ⟨_, rfl⟩
                replace H : (some (Go.bits .or .u64 (ji28) (ji31))) = some r := by first | (rw [hji31] at H; exact H) | (simp only [hji31] at H ⊢; exact H)
                have hji31_ : (a2 / 2 ^ min (ji29).toNat 64) = ji31 := hji31
                have hji31z : (ji29) ≤ 64 → (a2 / 2 ^ (ji29).toNat) = ji31 := shr_small hji31
                obtain rfl := Option.some.inj H
                go_enter Tryd.func35, Tryd.ntmps35
                go_wp2
                go_ret
                exact ⟨by first | rfl | (simp; done) | (simp only [← hji26, ← hji28, ← hji29, ← hji31] <;> (first | rfl | simp)) | (simp [*]; done), by repeat (first | exact Drawn0.refl _ | apply Drawn0.step)⟩
              · rw [if_neg c30] at H
                exact absurd H (by simp)
            · rw [if_neg c27] at H
              exact absurd H (by simp)

/-! ### num_wide_reckon: function 21 -/
def num_wide_reckon.f (k : Nat) (a0 : Int) (a1 : Int) (a2 : Int) (a3 : Int) : Option (Int × Int) := if a1 = 106 then (some (IntKind.u64.wrap (a2 + a3), 0)) else (if a1 = 107 then (some (IntKind.u64.wrap (a2 - a3), 0)) else (if a1 = 108 then (some (IntKind.u64.wrap (a2 * a3), 0)) else (if a1 ≤ 112 then ((num_wide_parts.f k a0 a1 a2 a3).bind fun bt106 => (some (bt106.1, bt106.2))) else (if a1 = 113 then (some (Go.bits .and .u64 a2 a3, 0)) else (if a1 = 114 then (some (Go.bits .or .u64 a2 a3, 0)) else (if a1 = 115 then (some (Go.bits .xor .u64 a2 a3, 0)) else ((num_wide_turn.f a0 a1 a2 a3).bind fun t108 => (some (t108, 0)))))))))
theorem num_wide_reckon.mono : ∀ a0 a1 a2 a3 k, LeO (num_wide_reckon.f k a0 a1 a2 a3) (num_wide_reckon.f (k + 1) a0 a1 a2 a3) := by
  intro a0 a1 a2 a3 k
  unfold num_wide_reckon.f
  repeat' first
      | (with_reducible exact num_wide_parts.mono _ _ _ _ _)
      | (with_reducible exact LeO.refl _)
      | (with_reducible exact LeO.none _)
      | (with_reducible refine LeO.ite ?_ ?_)
      | (with_reducible refine LeO.bind ?_ (fun _ => ?_))
      | exact num_wide_parts.mono _ _ _ _ _
      | exact LeO.none _
      | refine LeO.ite ?_ ?_
      | refine LeO.bind ?_ (fun _ => ?_)
set_option maxHeartbeats 8000000 in
set_option maxRecDepth 100000 in
theorem num_wide_reckon.calls (k : Nat) (a0 : Int) (a1 : Int) (a2 : Int) (a3 : Int) (r1 : Int) (r2 : Int) (w : World) (h : num_wide_reckon.f k a0 a1 a2 a3 = some (r1, r2)) :
    Calls Tryd.prog 21 #[.int .i64 a0, .int .u8 a1, .int .u64 a2, .int .u64 a3] w fun e w' => e = .returned (.tuple #[.int .u64 r1, .int .i64 r2]) ∧ Drawn0 w w' := by
  have H : (if a1 = 106 then (some (IntKind.u64.wrap (a2 + a3), 0)) else (if a1 = 107 then (some (IntKind.u64.wrap (a2 - a3), 0)) else (if a1 = 108 then (some (IntKind.u64.wrap (a2 * a3), 0)) else (if a1 ≤ 112 then ((num_wide_parts.f k a0 a1 a2 a3).bind fun bt106 => (some (bt106.1, bt106.2))) else (if a1 = 113 then (some (Go.bits .and .u64 a2 a3, 0)) else (if a1 = 114 then (some (Go.bits .or .u64 a2 a3, 0)) else (if a1 = 115 then (some (Go.bits .xor .u64 a2 a3, 0)) else ((num_wide_turn.f a0 a1 a2 a3).bind fun t108 => (some (t108, 0)))))))))) = some (r1, r2) := h
  clear h
  by_cases c5 : a1 = 106
  · rw [if_pos c5] at H
    have c5b0 : (a1 == 106) = true := beq_iff_eq.mpr c5
    have c5b1 : (a1 != 106) = false := bne_eq_false_iff_eq.mpr c5
    clear c5
    simp only [Option.some.injEq, Prod.mk.injEq] at H
    obtain ⟨rfl, rfl⟩ := H
    go_enter Tryd.func21, Tryd.ntmps21
    go_wp2
    go_ret2
    exact ⟨by first | rfl | (simp; done) | (simp [*]; done), by repeat (first | exact Drawn0.refl _ | apply Drawn0.step)⟩
  · rw [if_neg c5] at H
    have c5b0 : (a1 == 106) = false := beq_eq_false_iff_ne.mpr c5
    have c5b1 : (a1 != 106) = true := bne_iff_ne.mpr c5
    by_cases c6 : a1 = 107
    · rw [if_pos c6] at H
      have c6b0 : (a1 == 107) = true := beq_iff_eq.mpr c6
      have c6b1 : (a1 != 107) = false := bne_eq_false_iff_eq.mpr c6
      clear c6
      simp only [Option.some.injEq, Prod.mk.injEq] at H
      obtain ⟨rfl, rfl⟩ := H
      go_enter Tryd.func21, Tryd.ntmps21
      go_wp2
      go_ret2
      exact ⟨by first | rfl | (simp; done) | (simp [*]; done), by repeat (first | exact Drawn0.refl _ | apply Drawn0.step)⟩
    · rw [if_neg c6] at H
      have c6b0 : (a1 == 107) = false := beq_eq_false_iff_ne.mpr c6
      have c6b1 : (a1 != 107) = true := bne_iff_ne.mpr c6
      by_cases c7 : a1 = 108
      · rw [if_pos c7] at H
        have c7b0 : (a1 == 108) = true := beq_iff_eq.mpr c7
        have c7b1 : (a1 != 108) = false := bne_eq_false_iff_eq.mpr c7
        clear c7
        simp only [Option.some.injEq, Prod.mk.injEq] at H
        obtain ⟨rfl, rfl⟩ := H
        go_enter Tryd.func21, Tryd.ntmps21
        go_wp2
        go_ret2
        exact ⟨by first | rfl | (simp; done) | (simp [*]; done), by repeat (first | exact Drawn0.refl _ | apply Drawn0.step)⟩
      · rw [if_neg c7] at H
        have c7b0 : (a1 == 108) = false := beq_eq_false_iff_ne.mpr c7
        have c7b1 : (a1 != 108) = true := bne_iff_ne.mpr c7
        by_cases c8 : a1 ≤ 112
        · rw [if_pos c8] at H
          have c8b0 : decide (a1 ≤ 112) = true := decide_eq_true c8
          clear c8
          replace H := Option.bind_eq_some_iff.mp H
          obtain ⟨⟨t106, t107⟩, A90, H⟩ := H
          replace H : (some (t106, t107)) = some (r1, r2) := H
          have A9 := Aside0.mk A90
          clear A90
          simp only [Option.some.injEq, Prod.mk.injEq] at H
          obtain ⟨rfl, rfl⟩ := H
          go_enter Tryd.func21, Tryd.ntmps21
          go_wp2_with (first | ((with_reducible refine gate_callee (f := 34) rfl ?_); refine goesL_ _ rfl rfl Tryd.func34 (by kernel_rfl) rfl #[.int .i64 a0, .int .u8 a1, .int .u64 a2, .int .u64 a3] rfl (by (try simp only [List.map_toArray, List.map_cons, List.map_nil]); first | done | rfl | (simp only [List.length_drop, List.length_take]; rfl)) ?_; (with_reducible refine (num_wide_parts.calls k a0 a1 a2 a3 t106 t107 _ A9.out).mono ?_); rintro e w' ⟨rfl, ⟨nd, rfl⟩⟩; refine ⟨_, rfl, ?_⟩))
          go_ret2
          exact ⟨by first | rfl | (simp; done) | (simp [*]; done), by repeat (first | exact Drawn0.refl _ | apply Drawn0.step)⟩
        · rw [if_neg c8] at H
          have c8b0 : decide (a1 ≤ 112) = false := decide_eq_false c8
          clear c8
          by_cases c10 : a1 = 113
          · rw [if_pos c10] at H
            have c10b0 : (a1 == 113) = true := beq_iff_eq.mpr c10
            have c10b1 : (a1 != 113) = false := bne_eq_false_iff_eq.mpr c10
            clear c10
            simp only [Option.some.injEq, Prod.mk.injEq] at H
            obtain ⟨rfl, rfl⟩ := H
            go_enter Tryd.func21, Tryd.ntmps21
            go_wp2
            go_ret2
            exact ⟨by first | rfl | (simp; done) | (simp [*]; done), by repeat (first | exact Drawn0.refl _ | apply Drawn0.step)⟩
          · rw [if_neg c10] at H
            have c10b0 : (a1 == 113) = false := beq_eq_false_iff_ne.mpr c10
            have c10b1 : (a1 != 113) = true := bne_iff_ne.mpr c10
            by_cases c11 : a1 = 114
            · rw [if_pos c11] at H
              have c11b0 : (a1 == 114) = true := beq_iff_eq.mpr c11
              have c11b1 : (a1 != 114) = false := bne_eq_false_iff_eq.mpr c11
              clear c11
              simp only [Option.some.injEq, Prod.mk.injEq] at H
              obtain ⟨rfl, rfl⟩ := H
              go_enter Tryd.func21, Tryd.ntmps21
              go_wp2
              go_ret2
              exact ⟨by first | rfl | (simp; done) | (simp [*]; done), by repeat (first | exact Drawn0.refl _ | apply Drawn0.step)⟩
            · rw [if_neg c11] at H
              have c11b0 : (a1 == 114) = false := beq_eq_false_iff_ne.mpr c11
              have c11b1 : (a1 != 114) = true := bne_iff_ne.mpr c11
              by_cases c12 : a1 = 115
              · rw [if_pos c12] at H
                have c12b0 : (a1 == 115) = true := beq_iff_eq.mpr c12
                have c12b1 : (a1 != 115) = false := bne_eq_false_iff_eq.mpr c12
                clear c12
                simp only [Option.some.injEq, Prod.mk.injEq] at H
                obtain ⟨rfl, rfl⟩ := H
                go_enter Tryd.func21, Tryd.ntmps21
                go_wp2
                go_ret2
                exact ⟨by first | rfl | (simp; done) | (simp [*]; done), by repeat (first | exact Drawn0.refl _ | apply Drawn0.step)⟩
              · rw [if_neg c12] at H
                have c12b0 : (a1 == 115) = false := beq_eq_false_iff_ne.mpr c12
                have c12b1 : (a1 != 115) = true := bne_iff_ne.mpr c12
                replace H := Option.bind_eq_some_iff.mp H
                obtain ⟨t108, A130, H⟩ := H
                replace H : (some (t108, 0)) = some (r1, r2) := H
                have A13 := Aside0.mk A130
                clear A130
                simp only [Option.some.injEq, Prod.mk.injEq] at H
                obtain ⟨rfl, rfl⟩ := H
                go_enter Tryd.func21, Tryd.ntmps21
                go_wp2_with (first | ((with_reducible refine gate_callee (f := 35) rfl ?_); refine goesL_ _ rfl rfl Tryd.func35 (by kernel_rfl) rfl #[.int .i64 a0, .int .u8 a1, .int .u64 a2, .int .u64 a3] rfl (by (try simp only [List.map_toArray, List.map_cons, List.map_nil]); first | done | rfl | (simp only [List.length_drop, List.length_take]; rfl)) ?_; (with_reducible refine (num_wide_turn.calls a0 a1 a2 a3 t108 _ A13.out).mono ?_); rintro e w' ⟨rfl, ⟨nd, rfl⟩⟩; refine ⟨_, rfl, ?_⟩))
                go_ret2
                exact ⟨by first | rfl | (simp; done) | (simp [*]; done), by repeat (first | exact Drawn0.refl _ | apply Drawn0.step)⟩

end Go.Proofs.YtkpafgnchdohaaaDoor.XN
