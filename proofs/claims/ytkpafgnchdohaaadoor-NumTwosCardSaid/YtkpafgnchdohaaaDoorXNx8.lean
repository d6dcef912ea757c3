/- Functions of the Go program as Lean functions, and the proofs that the Go code answers as they do. Written by a program of this session. -/
import Derived.Test.YtkpafgnchdohaaaDoorXNx0
import Derived.Test.YtkpafgnchdohaaaDoorXNx7
namespace Go.Proofs.YtkpafgnchdohaaaDoor.XN
open Go.RowKit Go.Proofs.YtkpafgnchdohaaaDoorW.PrintWords Go.Proofs.YtkpafgnchdohaaaDoorW.PrintLast Go.Proofs.YtkpafgnchdohaaaDoorW.PrintMore
attribute [local go_sem] max2_int min2_int max_two min_two max_three min_three max_four min_four   -- for this text's walks alone
set_option linter.unusedVariables false
set_option linter.unusedSimpArgs false

/-! ### mandrelref02_holds: function 29 -/
def mandrelref02_holds.f (a0 : ByteArray) (a1 : Int) (a2 : Int) (a3 : Int) : Option (Bool × Bool) := if a0.toList = ([101, 113] : List UInt8) then (some ((a1 == a2), true)) else (if a0.toList = ([110, 101] : List UInt8) then (some ((a1 != a2), true)) else (if a0.toList = ([108, 116, 95, 115] : List UInt8) then ((mandrelref02_less.f a1 a2 a3).bind fun t248 => (some (t248, true))) else (if a0.toList = ([108, 116, 95, 117] : List UInt8) then (some (decide (a1 < a2), true)) else (if a0.toList = ([103, 116, 95, 115] : List UInt8) then ((mandrelref02_less.f a2 a1 a3).bind fun t249 => (some (t249, true))) else (if a0.toList = ([103, 116, 95, 117] : List UInt8) then (some (decide (a1 > a2), true)) else (if a0.toList = ([108, 101, 95, 115] : List UInt8) then ((mandrelref02_less.f a2 a1 a3).bind fun t250 => (some (!t250, true))) else (if a0.toList = ([108, 101, 95, 117] : List UInt8) then (some (decide (a1 ≤ a2), true)) else (if a0.toList = ([103, 101, 95, 115] : List UInt8) then ((mandrelref02_less.f a1 a2 a3).bind fun t251 => (some (!t251, true))) else (if a0.toList = ([103, 101, 95, 117] : List UInt8) then (some (decide (a1 ≥ a2), true)) else (some (false, false)))))))))))
set_option maxHeartbeats 8000000 in
set_option maxRecDepth 100000 in
theorem mandrelref02_holds.calls (a0 : ByteArray) (a1 : Int) (a2 : Int) (a3 : Int) (r1 : Bool) (r2 : Bool) (w : World) (h : mandrelref02_holds.f a0 a1 a2 a3 = some (r1, r2)) :
    Calls Tryd.prog 29 #[.string a0, .int .u64 a1, .int .u64 a2, .int .i64 a3] w fun e w' => e = .returned (.tuple #[.bool r1, .bool r2]) ∧ Drawn0 w w' := by
  have H : (if a0.toList = ([101, 113] : List UInt8) then (some ((a1 == a2), true)) else (if a0.toList = ([110, 101] : List UInt8) then (some ((a1 != a2), true)) else (if a0.toList = ([108, 116, 95, 115] : List UInt8) then ((mandrelref02_less.f a1 a2 a3).bind fun t248 => (some (t248, true))) else (if a0.toList = ([108, 116, 95, 117] : List UInt8) then (some (decide (a1 < a2), true)) else (if a0.toList = ([103, 116, 95, 115] : List UInt8) then ((mandrelref02_less.f a2 a1 a3).bind fun t249 => (some (t249, true))) else (if a0.toList = ([103, 116, 95, 117] : List UInt8) then (some (decide (a1 > a2), true)) else (if a0.toList = ([108, 101, 95, 115] : List UInt8) then ((mandrelref02_less.f a2 a1 a3).bind fun t250 => (some (!t250, true))) else (if a0.toList = ([108, 101, 95, 117] : List UInt8) then (some (decide (a1 ≤ a2), true)) else (if a0.toList = ([103, 101, 95, 115] : List UInt8) then ((mandrelref02_less.f a1 a2 a3).bind fun t251 => (some (!t251, true))) else (if a0.toList = ([103, 101, 95, 117] : List UInt8) then (some (decide (a1 ≥ a2), true)) else (some (false, false)))))))))))) = some (r1, r2) := h
  clear h
  by_cases c5 : a0.toList = ([101, 113] : List UInt8)
  · rw [if_pos c5] at H
    have c5b0 : (a0.toList == ([101, 113] : List UInt8)) = true := beq_iff_eq.mpr c5
    have c5b1 : (a0.toList != ([101, 113] : List UInt8)) = false := bne_eq_false_iff_eq.mpr c5
    clear c5
    simp only [Option.some.injEq, Prod.mk.injEq] at H
    obtain ⟨rfl, rfl⟩ := H
    go_enter Tryd.func29, Tryd.ntmps29
    go_wp2
    go_ret2
    exact ⟨by first | rfl | (simp; done) | (simp [*]; done), by repeat (first | exact Drawn0.refl _ | apply Drawn0.step)⟩
  · rw [if_neg c5] at H
    have c5b0 : (a0.toList == ([101, 113] : List UInt8)) = false := beq_eq_false_iff_ne.mpr c5
    have c5b1 : (a0.toList != ([101, 113] : List UInt8)) = true := bne_iff_ne.mpr c5
    by_cases c6 : a0.toList = ([110, 101] : List UInt8)
    · rw [if_pos c6] at H
      have c6b0 : (a0.toList == ([110, 101] : List UInt8)) = true := beq_iff_eq.mpr c6
      have c6b1 : (a0.toList != ([110, 101] : List UInt8)) = false := bne_eq_false_iff_eq.mpr c6
      clear c6
      simp only [Option.some.injEq, Prod.mk.injEq] at H
      obtain ⟨rfl, rfl⟩ := H
      go_enter Tryd.func29, Tryd.ntmps29
      go_wp2
      go_ret2
      exact ⟨by first | rfl | (simp; done) | (simp [*]; done), by repeat (first | exact Drawn0.refl _ | apply Drawn0.step)⟩
    · rw [if_neg c6] at H
      have c6b0 : (a0.toList == ([110, 101] : List UInt8)) = false := beq_eq_false_iff_ne.mpr c6
      have c6b1 : (a0.toList != ([110, 101] : List UInt8)) = true := bne_iff_ne.mpr c6
      by_cases c7 : a0.toList = ([108, 116, 95, 115] : List UInt8)
      · rw [if_pos c7] at H
        have c7b0 : (a0.toList == ([108, 116, 95, 115] : List UInt8)) = true := beq_iff_eq.mpr c7
        have c7b1 : (a0.toList != ([108, 116, 95, 115] : List UInt8)) = false := bne_eq_false_iff_eq.mpr c7
        clear c7
        replace H := Option.bind_eq_some_iff.mp H
        obtain ⟨t248, A80, H⟩ := H
        replace H : (some (t248, true)) = some (r1, r2) := H
        have A8 := Aside0.mk A80
        clear A80
        simp only [Option.some.injEq, Prod.mk.injEq] at H
        obtain ⟨rfl, rfl⟩ := H
        go_enter Tryd.func29, Tryd.ntmps29
        go_wp2_with (first | ((with_reducible refine gate_callee (f := 40) rfl ?_); refine goesL_ _ rfl rfl Tryd.func40 (by kernel_rfl) rfl #[.int .u64 a1, .int .u64 a2, .int .i64 a3] rfl (by (try simp only [List.map_toArray, List.map_cons, List.map_nil]); first | done | rfl | (simp only [List.length_drop, List.length_take]; rfl)) ?_; (with_reducible refine (mandrelref02_less.calls a1 a2 a3 t248 _ A8.out).mono ?_); rintro e w' ⟨rfl, ⟨nd, rfl⟩⟩; refine ⟨_, rfl, ?_⟩))
        go_ret2
        exact ⟨by first | rfl | (simp; done) | (simp [*]; done), by repeat (first | exact Drawn0.refl _ | apply Drawn0.step)⟩
      · rw [if_neg c7] at H
        have c7b0 : (a0.toList == ([108, 116, 95, 115] : List UInt8)) = false := beq_eq_false_iff_ne.mpr c7
        have c7b1 : (a0.toList != ([108, 116, 95, 115] : List UInt8)) = true := bne_iff_ne.mpr c7
        by_cases c9 : a0.toList = ([108, 116, 95, 117] : List UInt8)
        · rw [if_pos c9] at H
          have c9b0 : (a0.toList == ([108, 116, 95, 117] : List UInt8)) = true := beq_iff_eq.mpr c9
          have c9b1 : (a0.toList != ([108, 116, 95, 117] : List UInt8)) = false := bne_eq_false_iff_eq.mpr c9
          clear c9
          simp only [Option.some.injEq, Prod.mk.injEq] at H
          obtain ⟨rfl, rfl⟩ := H
          go_enter Tryd.func29, Tryd.ntmps29
          go_wp2
          go_ret2
          exact ⟨by first | rfl | (simp; done) | (simp [*]; done), by repeat (first | exact Drawn0.refl _ | apply Drawn0.step)⟩
        · rw [if_neg c9] at H
          have c9b0 : (a0.toList == ([108, 116, 95, 117] : List UInt8)) = false := beq_eq_false_iff_ne.mpr c9
          have c9b1 : (a0.toList != ([108, 116, 95, 117] : List UInt8)) = true := bne_iff_ne.mpr c9
          by_cases c10 : a0.toList = ([103, 116, 95, 115] : List UInt8)
          · rw [if_pos c10] at H
            have c10b0 : (a0.toList == ([103, 116, 95, 115] : List UInt8)) = true := beq_iff_eq.mpr c10
            have c10b1 : (a0.toList != ([103, 116, 95, 115] : List UInt8)) = false := bne_eq_false_iff_eq.mpr c10
            clear c10
            replace H := Option.bind_eq_some_iff.mp H
            obtain ⟨t249, A110, H⟩ := H
            replace H : (some (t249, true)) = some (r1, r2) := H
            have A11 := Aside0.mk A110
            clear A110
            simp only [Option.some.injEq, Prod.mk.injEq] at H
            obtain ⟨rfl, rfl⟩ := H
            go_enter Tryd.func29, Tryd.ntmps29
            go_wp2_with (first | ((with_reducible refine gate_callee (f := 40) rfl ?_); refine goesL_ _ rfl rfl Tryd.func40 (by kernel_rfl) rfl #[.int .u64 a2, .int .u64 a1, .int .i64 a3] rfl (by (try simp only [List.map_toArray, List.map_cons, List.map_nil]); first | done | rfl | (simp only [List.length_drop, List.length_take]; rfl)) ?_; (with_reducible refine (mandrelref02_less.calls a2 a1 a3 t249 _ A11.out).mono ?_); rintro e w' ⟨rfl, ⟨nd, rfl⟩⟩; refine ⟨_, rfl, ?_⟩))
            go_ret2
            exact ⟨by first | rfl | (simp; done) | (simp [*]; done), by repeat (first | exact Drawn0.refl _ | apply Drawn0.step)⟩
          · rw [if_neg c10] at H
            have c10b0 : (a0.toList == ([103, 116, 95, 115] : List UInt8)) = false := beq_eq_false_iff_ne.mpr c10
            have c10b1 : (a0.toList != ([103, 116, 95, 115] : List UInt8)) = true := bne_iff_ne.mpr c10
            by_cases c12 : a0.toList = ([103, 116, 95, 117] : List UInt8)
            · rw [if_pos c12] at H
              have c12b0 : (a0.toList == ([103, 116, 95, 117] : List UInt8)) = true := beq_iff_eq.mpr c12
              have c12b1 : (a0.toList != ([103, 116, 95, 117] : List UInt8)) = false := bne_eq_false_iff_eq.mpr c12
              clear c12
              simp only [Option.some.injEq, Prod.mk.injEq] at H
              obtain ⟨rfl, rfl⟩ := H
              go_enter Tryd.func29, Tryd.ntmps29
              go_wp2
              go_ret2
              exact ⟨by first | rfl | (simp; done) | (simp [*]; done), by repeat (first | exact Drawn0.refl _ | apply Drawn0.step)⟩
            · rw [if_neg c12] at H
              have c12b0 : (a0.toList == ([103, 116, 95, 117] : List UInt8)) = false := beq_eq_false_iff_ne.mpr c12
              have c12b1 : (a0.toList != ([103, 116, 95, 117] : List UInt8)) = true := bne_iff_ne.mpr c12
              by_cases c13 : a0.toList = ([108, 101, 95, 115] : List UInt8)
              · rw [if_pos c13] at H
                have c13b0 : (a0.toList == ([108, 101, 95, 115] : List UInt8)) = true := beq_iff_eq.mpr c13
                have c13b1 : (a0.toList != ([108, 101, 95, 115] : List UInt8)) = false := bne_eq_false_iff_eq.mpr c13
                clear c13
                replace H := Option.bind_eq_some_iff.mp H
                obtain ⟨t250, A140, H⟩ := H
                replace H : (some (!t250, true)) = some (r1, r2) := H
                have A14 := Aside0.mk A140
                clear A140
                simp only [Option.some.injEq, Prod.mk.injEq] at H
                obtain ⟨rfl, rfl⟩ := H
                go_enter Tryd.func29, Tryd.ntmps29
                go_wp2_with (first | ((with_reducible refine gate_callee (f := 40) rfl ?_); refine goesL_ _ rfl rfl Tryd.func40 (by kernel_rfl) rfl #[.int .u64 a2, .int .u64 a1, .int .i64 a3] rfl (by (try simp only [List.map_toArray, List.map_cons, List.map_nil]); first | done | rfl | (simp only [List.length_drop, List.length_take]; rfl)) ?_; (with_reducible refine (mandrelref02_less.calls a2 a1 a3 t250 _ A14.out).mono ?_); rintro e w' ⟨rfl, ⟨nd, rfl⟩⟩; refine ⟨_, rfl, ?_⟩))
                go_ret2
                exact ⟨by first | rfl | (simp; done) | (simp [*]; done), by repeat (first | exact Drawn0.refl _ | apply Drawn0.step)⟩
              · rw [if_neg c13] at H
                have c13b0 : (a0.toList == ([108, 101, 95, 115] : List UInt8)) = false := beq_eq_false_iff_ne.mpr c13
                have c13b1 : (a0.toList != ([108, 101, 95, 115] : List UInt8)) = true := bne_iff_ne.mpr c13
                by_cases c15 : a0.toList = ([108, 101, 95, 117] : List UInt8)
                · rw [if_pos c15] at H
                  have c15b0 : (a0.toList == ([108, 101, 95, 117] : List UInt8)) = true := beq_iff_eq.mpr c15
                  have c15b1 : (a0.toList != ([108, 101, 95, 117] : List UInt8)) = false := bne_eq_false_iff_eq.mpr c15
                  clear c15
                  simp only [Option.some.injEq, Prod.mk.injEq] at H
                  obtain ⟨rfl, rfl⟩ := H
                  go_enter Tryd.func29, Tryd.ntmps29
                  go_wp2
                  go_ret2
                  exact ⟨by first | rfl | (simp; done) | (simp [*]; done), by repeat (first | exact Drawn0.refl _ | apply Drawn0.step)⟩
                · rw [if_neg c15] at H
                  have c15b0 : (a0.toList == ([108, 101, 95, 117] : List UInt8)) = false := beq_eq_false_iff_ne.mpr c15
                  have c15b1 : (a0.toList != ([108, 101, 95, 117] : List UInt8)) = true := bne_iff_ne.mpr c15
                  by_cases c16 : a0.toList = ([103, 101, 95, 115] : List UInt8)
                  · rw [if_pos c16] at H
                    have c16b0 : (a0.toList == ([103, 101, 95, 115] : List UInt8)) = true := beq_iff_eq.mpr c16
                    have c16b1 : (a0.toList != ([103, 101, 95, 115] : List UInt8)) = false := bne_eq_false_iff_eq.mpr c16
                    clear c16
                    replace H := Option.bind_eq_some_iff.mp H
                    obtain ⟨t251, A170, H⟩ := H
                    replace H : (some (!t251, true)) = some (r1, r2) := H
                    have A17 := Aside0.mk A170
                    clear A170
                    simp only [Option.some.injEq, Prod.mk.injEq] at H
                    obtain ⟨rfl, rfl⟩ := H
                    go_enter Tryd.func29, Tryd.ntmps29
                    go_wp2_with (first | ((with_reducible refine gate_callee (f := 40) rfl ?_); refine goesL_ _ rfl rfl Tryd.func40 (by kernel_rfl) rfl #[.int .u64 a1, .int .u64 a2, .int .i64 a3] rfl (by (try simp only [List.map_toArray, List.map_cons, List.map_nil]); first | done | rfl | (simp only [List.length_drop, List.length_take]; rfl)) ?_; (with_reducible refine (mandrelref02_less.calls a1 a2 a3 t251 _ A17.out).mono ?_); rintro e w' ⟨rfl, ⟨nd, rfl⟩⟩; refine ⟨_, rfl, ?_⟩))
                    go_ret2
                    exact ⟨by first | rfl | (simp; done) | (simp [*]; done), by repeat (first | exact Drawn0.refl _ | apply Drawn0.step)⟩
                  · rw [if_neg c16] at H
                    have c16b0 : (a0.toList == ([103, 101, 95, 115] : List UInt8)) = false := beq_eq_false_iff_ne.mpr c16
                    have c16b1 : (a0.toList != ([103, 101, 95, 115] : List UInt8)) = true := bne_iff_ne.mpr c16
                    by_cases c18 : a0.toList = ([103, 101, 95, 117] : List UInt8)
                    · rw [if_pos c18] at H
                      have c18b0 : (a0.toList == ([103, 101, 95, 117] : List UInt8)) = true := beq_iff_eq.mpr c18
                      have c18b1 : (a0.toList != ([103, 101, 95, 117] : List UInt8)) = false := bne_eq_false_iff_eq.mpr c18
                      clear c18
                      simp only [Option.some.injEq, Prod.mk.injEq] at H
                      obtain ⟨rfl, rfl⟩ := H
                      go_enter Tryd.func29, Tryd.ntmps29
                      go_wp2
                      go_ret2
                      exact ⟨by first | rfl | (simp; done) | (simp [*]; done), by repeat (first | exact Drawn0.refl _ | apply Drawn0.step)⟩
                    · rw [if_neg c18] at H
                      have c18b0 : (a0.toList == ([103, 101, 95, 117] : List UInt8)) = false := beq_eq_false_iff_ne.mpr c18
                      have c18b1 : (a0.toList != ([103, 101, 95, 117] : List UInt8)) = true := bne_iff_ne.mpr c18
                      simp only [Option.some.injEq, Prod.mk.injEq] at H
                      obtain ⟨rfl, rfl⟩ := H
                      go_enter Tryd.func29, Tryd.ntmps29
                      go_wp2
                      go_ret2
                      exact ⟨by first | rfl | (simp; done) | (simp [*]; done), by repeat (first | exact Drawn0.refl _ | apply Drawn0.step)⟩

/-! ### mandrelref02_made: function 30 -/
def mandrelref02_made.l0 : Nat → List Bool → Int → Int → Option (Int)
  | 0, _, _, _ => none
  | k + 1, x0, x3, x4 => if x4 ≥ 0 then (if 0 ≤ x4 then (if x4 < (x0.length : Int) then (if rdOf false x0 x4 = true then (mandrelref02_made.l0 k x0 (IntKind.u64.wrap ((IntKind.u64.wrap (2 * x3)) + 1)) (wrap64 (x4 - 1))) else (mandrelref02_made.l0 k x0 (IntKind.u64.wrap (2 * x3)) (wrap64 (x4 - 1)))) else (none)) else (none)) else (some x3)
def mandrelref02_made.f (k : Nat) (l0 : List Bool) : Option (Int) := mandrelref02_made.l0 k l0 0 (wrap64 ((l0.length : Int) - 1))
theorem mandrelref02_made.mono_l : ∀ k, (∀ y0 y1 y2, LeO (mandrelref02_made.l0 k y0 y1 y2) (mandrelref02_made.l0 (k + 1) y0 y1 y2))
  | 0 => fun _ _ _ r h => by simp [mandrelref02_made.l0] at h
  | k + 1 => by
    have ih0 := mandrelref02_made.mono_l k
    · intro y0 y1 y2
      unfold mandrelref02_made.l0
      repeat' first
      | (with_reducible exact ih0 _ _ _)
      | (with_reducible exact LeO.refl _)
      | (with_reducible exact LeO.none _)
      | (with_reducible refine LeO.ite ?_ ?_)
      | (with_reducible refine LeO.bind ?_ (fun _ => ?_))
      | exact ih0 _ _ _
      | exact LeO.none _
      | refine LeO.ite ?_ ?_
      | refine LeO.bind ?_ (fun _ => ?_)
theorem mandrelref02_made.mono : ∀ a0 k, LeO (mandrelref02_made.f k a0) (mandrelref02_made.f (k + 1) a0) := by
  intro a0 k
  have ih0 := mandrelref02_made.mono_l k
  unfold mandrelref02_made.f
  repeat' first
      | (with_reducible exact ih0 _ _ _)
      | (with_reducible exact LeO.refl _)
      | (with_reducible exact LeO.none _)
      | (with_reducible refine LeO.ite ?_ ?_)
      | (with_reducible refine LeO.bind ?_ (fun _ => ?_))
      | exact ih0 _ _ _
      | exact LeO.none _
      | refine LeO.ite ?_ ?_
      | refine LeO.bind ?_ (fun _ => ?_)
set_option maxHeartbeats 8000000 in
set_option maxRecDepth 100000 in
theorem mandrelref02_made.calls (k : Nat) (A0 : Option Addr) (c0 : Nat) (l0 : List Bool) (r : Int) (w : World) (hr0 : Kd.C Kd.bool w A0 l0.length l0) (hc0 : l0.length ≤ c0) (h : mandrelref02_made.f k l0 = some r) :
    Calls Tryd.prog 30 #[.slice A0 l0.length c0] w fun e w' => e = .returned (.int .u64 r) ∧ Drawn0 w w' := by
  have HR0 := Aside0.mk hr0
  have HC0 := Aside0.mk hc0
  clear hr0 hc0
  have H : (mandrelref02_made.l0 k l0 0 (wrap64 ((l0.length : Int) - 1))) = some r := h
  clear h
  have H' := Aside0.mk H
  clear H
  go_enter Tryd.func30, Tryd.ntmps30
  go_wp2
  go_loopg [3, 4] k (fun kq v3 v4 w' => ∃ (x3_1 : Int) (x4_1 : Int), v3 = .int .u64 x3_1 ∧ v4 = .int .i64 x4_1 ∧ Aside0 (mandrelref02_made.l0 kq l0 x3_1 x4_1 = some r) ∧ Aside0 (kq ≤ k) ∧ Drawn0 w w')
  case atStart => exact ⟨(0), (wrap64 ((l0.length : Int) - 1)), (by first | rfl | (simp; done) | (simp [*]; done)), (by first | rfl | (simp; done) | (simp [*]; done)), H', ⟨Nat.le_refl _⟩, by repeat (first | exact Drawn0.refl _ | apply Drawn0.step)⟩
  case round =>
    clear H'
    obtain ⟨x3_1, x4_1, rfl, rfl, HA, HK1, ⟨m1, rfl⟩⟩ := hrel
    cases gk with
    | zero => exact absurd HA.out (by simp [mandrelref02_made.l0])
    | succ k1 =>
      have H := HA.out
      clear HA
      simp only [mandrelref02_made.l0] at H
      by_cases c2 : x4_1 ≥ 0
      · rw [if_pos c2] at H
        have c2b0 : decide (0 ≤ x4_1) = true := decide_eq_true c2
        clear c2
        by_cases c3 : 0 ≤ x4_1
        · rw [if_pos c3] at H
          have c3b0 : decide (0 ≤ x4_1) = true := decide_eq_true c3
          clear c3
          by_cases c4 : x4_1 < (l0.length : Int)
          · rw [if_pos c4] at H
            have c4b0 : decide (x4_1 < (l0.length : Int)) = true := decide_eq_true c4
            clear c4
            obtain ⟨bq5, hbq5⟩ : ∃ b_ : Bool, b_ = (rdOf false l0 x4_1) := ⟨_, rfl⟩
            replace H : (if bq5 = true then (mandrelref02_made.l0 k1 l0 (IntKind.u64.wrap ((IntKind.u64.wrap (2 * x3_1)) + 1)) (wrap64 (x4_1 - 1))) else (mandrelref02_made.l0 k1 l0 (IntKind.u64.wrap (2 * x3_1)) (wrap64 (x4_1 - 1)))) = some r := by rw [← hbq5] at H; exact H
            have Nbq5 := Aside0.mk hbq5
            clear hbq5
            by_cases c6 : bq5 = true
            · subst c6
              have H1 : (mandrelref02_made.l0 k1 l0 (IntKind.u64.wrap ((IntKind.u64.wrap (2 * x3_1)) + 1)) (wrap64 (x4_1 - 1))) = some r := by rw [if_pos rfl] at H; exact H
              clear H
              have H := H1
              clear H1
              have H' := Aside0.mk H
              clear H
              have p252 : 0 ≤ (x4_1 : Int) := of_decide_eq_true (by first | (with_reducible assumption) | assumption)
              have q252 : x4_1 < (l0.length : Int) := of_decide_eq_true (by first | (with_reducible assumption) | assumption)
              obtain ⟨ad252, e252, hx252_0⟩ := Kd.at_bool HR0.out x4_1 p252 q252
              (try rw [← Nbq5.out] at hx252_0)
              cases e252
              replace p252 := eq_true p252
              replace q252 := eq_true q252
              go_wp2
              go_roundg k1
              case measure => have := HK1.out; omega
              case rel => exact ⟨(IntKind.u64.wrap ((IntKind.u64.wrap (2 * x3_1)) + 1)), (wrap64 (x4_1 - 1)), (by first | rfl | (simp; done) | (simp [*]; done)), (by first | rfl | (simp; done) | (simp [*]; done)), H', ⟨by have := HK1.out; omega⟩, by repeat (first | exact Drawn0.refl _ | apply Drawn0.step)⟩
            · replace c6 := Bool.eq_false_iff.mpr c6
              subst c6
              have H1 : (mandrelref02_made.l0 k1 l0 (IntKind.u64.wrap (2 * x3_1)) (wrap64 (x4_1 - 1))) = some r := by rw [if_neg (show ¬ (false = true) by decide)] at H; exact H
              clear H
              have H := H1
              clear H1
              have H' := Aside0.mk H
              clear H
              have p252 : 0 ≤ (x4_1 : Int) := of_decide_eq_true (by first | (with_reducible assumption) | assumption)
              have q252 : x4_1 < (l0.length : Int) := of_decide_eq_true (by first | (with_reducible assumption) | assumption)
              obtain ⟨ad252, e252, hx252_0⟩ := Kd.at_bool HR0.out x4_1 p252 q252
              (try rw [← Nbq5.out] at hx252_0)
              cases e252
              replace p252 := eq_true p252
              replace q252 := eq_true q252
              go_wp2
              go_roundg k1
              case measure => have := HK1.out; omega
              case rel => exact ⟨(IntKind.u64.wrap (2 * x3_1)), (wrap64 (x4_1 - 1)), (by first | rfl | (simp; done) | (simp [*]; done)), (by first | rfl | (simp; done) | (simp [*]; done)), H', ⟨by have := HK1.out; omega⟩, by repeat (first | exact Drawn0.refl _ | apply Drawn0.step)⟩
          · rw [if_neg c4] at H
            exact absurd H (by simp)
        · rw [if_neg c3] at H
          exact absurd H (by simp)
      · rw [if_neg c2] at H
        have c2b0 : decide (0 ≤ x4_1) = false := decide_eq_false c2
        clear c2
        obtain rfl := Option.some.inj H
        go_wp2
        go_ret
        exact ⟨by first | rfl | (simp; done) | (simp [*]; done), by repeat (first | exact Drawn0.refl _ | apply Drawn0.step)⟩

/-! ### mandrelref02_away: function 41 -/
def mandrelref02_away.f (a0 : Int) (a1 : Int) : Option (Int) := (mandrelref02_negative.f a0 a1).bind fun t253 => (if t253 = true then ((mandrelref02_low.f (IntKind.u64.wrap (-a0)) a1).bind fun t254 => (some t254)) else (some a0))
set_option maxHeartbeats 8000000 in
set_option maxRecDepth 100000 in
theorem mandrelref02_away.calls (a0 : Int) (a1 : Int) (r : Int) (w : World) (h : mandrelref02_away.f a0 a1 = some r) :
    Calls Tryd.prog 41 #[.int .u64 a0, .int .i64 a1] w fun e w' => e = .returned (.int .u64 r) ∧ Drawn0 w w' := by
  have H : ((mandrelref02_negative.f a0 a1).bind fun t253 => (if t253 = true then ((mandrelref02_low.f (IntKind.u64.wrap (-a0)) a1).bind fun t254 => (some t254)) else (some a0))) = some r := h
  clear h
  replace H := Option.bind_eq_some_iff.mp H
  obtain ⟨t253, A30, H⟩ := H
  replace H : (if t253 = true then ((mandrelref02_low.f (IntKind.u64.wrap (-a0)) a1).bind fun t254 => (some t254)) else (some a0)) = some r := H
  have A3 := Aside0.mk A30
  clear A30
  by_cases c4 : t253 = true
  · subst c4
    have H1 : ((mandrelref02_low.f (IntKind.u64.wrap (-a0)) a1).bind fun t254 => (some t254)) = some r := by rw [if_pos rfl] at H; exact H
    clear H
    have H := H1
    clear H1
    replace H := Option.bind_eq_some_iff.mp H
    obtain ⟨t254, A50, H⟩ := H
    replace H : (some t254) = some r := H
    have A5 := Aside0.mk A50
    clear A50
    obtain rfl := Option.some.inj H
    go_enter Tryd.func41, Tryd.ntmps41
    go_wp2_with (first | ((with_reducible refine gate_callee (f := 42) rfl ?_); refine goesL_ _ rfl rfl Tryd.func42 (by kernel_rfl) rfl #[.int .u64 a0, .int .i64 a1] rfl (by (try simp only [List.map_toArray, List.map_cons, List.map_nil]); first | done | rfl | (simp only [List.length_drop, List.length_take]; rfl)) ?_; (with_reducible refine (mandrelref02_negative.calls a0 a1 true _ A3.out).mono ?_); rintro e w' ⟨rfl, ⟨nd, rfl⟩⟩; refine ⟨_, rfl, ?_⟩) | ((with_reducible refine gate_callee (f := 26) rfl ?_); refine goesL_ _ rfl rfl Tryd.func26 (by kernel_rfl) rfl #[.int .u64 (IntKind.u64.wrap (-a0)), .int .i64 a1] rfl (by (try simp only [List.map_toArray, List.map_cons, List.map_nil]); first | done | rfl | (simp only [List.length_drop, List.length_take]; rfl)) ?_; (with_reducible refine (mandrelref02_low.calls (IntKind.u64.wrap (-a0)) a1 t254 _ A5.out).mono ?_); rintro e w' ⟨rfl, ⟨nd, rfl⟩⟩; refine ⟨_, rfl, ?_⟩))
    go_ret
    exact ⟨by first | rfl | (simp; done) | (simp [*]; done), by repeat (first | exact Drawn0.refl _ | apply Drawn0.step)⟩
  · replace c4 := Bool.eq_false_iff.mpr c4
    subst c4
    have H1 : (some a0) = some r := by rw [if_neg (show ¬ (false = true) by decide)] at H; exact H
    clear H
    have H := H1
    clear H1
    obtain rfl := Option.some.inj H
    go_enter Tryd.func41, Tryd.ntmps41
    go_wp2_with (first | ((with_reducible refine gate_callee (f := 42) rfl ?_); refine goesL_ _ rfl rfl Tryd.func42 (by kernel_rfl) rfl #[.int .u64 a0, .int .i64 a1] rfl (by (try simp only [List.map_toArray, List.map_cons, List.map_nil]); first | done | rfl | (simp only [List.length_drop, List.length_take]; rfl)) ?_; (with_reducible refine (mandrelref02_negative.calls a0 a1 false _ A3.out).mono ?_); rintro e w' ⟨rfl, ⟨nd, rfl⟩⟩; refine ⟨_, rfl, ?_⟩))
    go_ret
    exact ⟨by first | rfl | (simp; done) | (simp [*]; done), by repeat (first | exact Drawn0.refl _ | apply Drawn0.step)⟩

/-! ### mandrelref02_divided: function 31 -/
def mandrelref02_divided.f (a0 : ByteArray) (a1 : Int) (a2 : Int) (a3 : Int) : Option (Int × Int) := if a2 = 0 then (some (0, 2)) else (if a0.toList = ([100, 105, 118, 95, 117] : List UInt8) then (some (IntKind.u64.wrap (Int.tdiv a1 a2), 0)) else (if a0.toList = ([114, 101, 109, 95, 117] : List UInt8) then (some (Int.tmod a1 a2, 0)) else (if a0.toList = ([114, 101, 109, 95, 115] : List UInt8) then ((mandrelref02_away.f a1 a3).bind fun t255 => ((mandrelref02_away.f a2 a3).bind fun t256 => (if t256 = 0 then (none) else ((mandrelref02_negative.f a1 a3).bind fun t257 => (if t257 = true then ((mandrelref02_low.f (IntKind.u64.wrap (-(Int.tmod t255 t256))) a3).bind fun t258 => (some (t258, 0))) else (some (Int.tmod t255 t256, 0))))))) else ((mandrelref02_away.f a1 a3).bind fun t259 => ((mandrelref02_away.f a2 a3).bind fun t260 => (if t260 = 0 then (none) else ((mandrelref02_negative.f a1 a3).bind fun t261 => ((mandrelref02_negative.f a2 a3).bind fun t262 => (if (t261 != t262) = true then ((mandrelref02_low.f (IntKind.u64.wrap (-(IntKind.u64.wrap (Int.tdiv t259 t260)))) a3).bind fun t263 => (some (t263, 0))) else ((mandrelref02_negative.f (IntKind.u64.wrap (Int.tdiv t259 t260)) a3).bind fun t264 => (if t264 = true then (some (0, 3)) else (some (IntKind.u64.wrap (Int.tdiv t259 t260), 0)))))))))))))
set_option maxHeartbeats 8000000 in
set_option maxRecDepth 100000 in
theorem mandrelref02_divided.calls (a0 : ByteArray) (a1 : Int) (a2 : Int) (a3 : Int) (r1 : Int) (r2 : Int) (w : World) (h : mandrelref02_divided.f a0 a1 a2 a3 = some (r1, r2)) :
    Calls Tryd.prog 31 #[.string a0, .int .u64 a1, .int .u64 a2, .int .i64 a3] w fun e w' => e = .returned (.tuple #[.int .u64 r1, .int .i64 r2]) ∧ Drawn0 w w' := by
  have H : (if a2 = 0 then (some (0, 2)) else (if a0.toList = ([100, 105, 118, 95, 117] : List UInt8) then (some (IntKind.u64.wrap (Int.tdiv a1 a2), 0)) else (if a0.toList = ([114, 101, 109, 95, 117] : List UInt8) then (some (Int.tmod a1 a2, 0)) else (if a0.toList = ([114, 101, 109, 95, 115] : List UInt8) then ((mandrelref02_away.f a1 a3).bind fun t255 => ((mandrelref02_away.f a2 a3).bind fun t256 => (if t256 = 0 then (none) else ((mandrelref02_negative.f a1 a3).bind fun t257 => (if t257 = true then ((mandrelref02_low.f (IntKind.u64.wrap (-(Int.tmod t255 t256))) a3).bind fun t258 => (some (t258, 0))) else (some (Int.tmod t255 t256, 0))))))) else ((mandrelref02_away.f a1 a3).bind fun t259 => ((mandrelref02_away.f a2 a3).bind fun t260 => (if t260 = 0 then (none) else ((mandrelref02_negative.f a1 a3).bind fun t261 => ((mandrelref02_negative.f a2 a3).bind fun t262 => (if (t261 != t262) = true then ((mandrelref02_low.f (IntKind.u64.wrap (-(IntKind.u64.wrap (Int.tdiv t259 t260)))) a3).bind fun t263 => (some (t263, 0))) else ((mandrelref02_negative.f (IntKind.u64.wrap (Int.tdiv t259 t260)) a3).bind fun t264 => (if t264 = true then (some (0, 3)) else (some (IntKind.u64.wrap (Int.tdiv t259 t260), 0)))))))))))))) = some (r1, r2) := h
  clear h
  by_cases c5 : a2 = 0
  · rw [if_pos c5] at H
    have c5b0 : (a2 == 0) = true := beq_iff_eq.mpr c5
    have c5b1 : (a2 != 0) = false := bne_eq_false_iff_eq.mpr c5
    clear c5
    simp only [Option.some.injEq, Prod.mk.injEq] at H
    obtain ⟨rfl, rfl⟩ := H
    go_enter Tryd.func31, Tryd.ntmps31
    go_wp2
    go_ret2
    exact ⟨by first | rfl | (simp; done) | (simp [*]; done), by repeat (first | exact Drawn0.refl _ | apply Drawn0.step)⟩
  · rw [if_neg c5] at H
    have c5b0 : (a2 == 0) = false := beq_eq_false_iff_ne.mpr c5
    have c5b1 : (a2 != 0) = true := bne_iff_ne.mpr c5
    by_cases c6 : a0.toList = ([100, 105, 118, 95, 117] : List UInt8)
    · rw [if_pos c6] at H
      have c6b0 : (a0.toList == ([100, 105, 118, 95, 117] : List UInt8)) = true := beq_iff_eq.mpr c6
      have c6b1 : (a0.toList != ([100, 105, 118, 95, 117] : List UInt8)) = false := bne_eq_false_iff_eq.mpr c6
      clear c6
      simp only [Option.some.injEq, Prod.mk.injEq] at H
      obtain ⟨rfl, rfl⟩ := H
      go_enter Tryd.func31, Tryd.ntmps31
      go_wp2
      go_ret2
      exact ⟨by first | rfl | (simp; done) | (simp [*]; done), by repeat (first | exact Drawn0.refl _ | apply Drawn0.step)⟩
    · rw [if_neg c6] at H
      have c6b0 : (a0.toList == ([100, 105, 118, 95, 117] : List UInt8)) = false := beq_eq_false_iff_ne.mpr c6
      have c6b1 : (a0.toList != ([100, 105, 118, 95, 117] : List UInt8)) = true := bne_iff_ne.mpr c6
      by_cases c7 : a0.toList = ([114, 101, 109, 95, 117] : List UInt8)
      · rw [if_pos c7] at H
        have c7b0 : (a0.toList == ([114, 101, 109, 95, 117] : List UInt8)) = true := beq_iff_eq.mpr c7
        have c7b1 : (a0.toList != ([114, 101, 109, 95, 117] : List UInt8)) = false := bne_eq_false_iff_eq.mpr c7
        clear c7
        simp only [Option.some.injEq, Prod.mk.injEq] at H
        obtain ⟨rfl, rfl⟩ := H
        go_enter Tryd.func31, Tryd.ntmps31
        go_wp2
        go_ret2
        exact ⟨by first | rfl | (simp; done) | (simp [*]; done), by repeat (first | exact Drawn0.refl _ | apply Drawn0.step)⟩
      · rw [if_neg c7] at H
        have c7b0 : (a0.toList == ([114, 101, 109, 95, 117] : List UInt8)) = false := beq_eq_false_iff_ne.mpr c7
        have c7b1 : (a0.toList != ([114, 101, 109, 95, 117] : List UInt8)) = true := bne_iff_ne.mpr c7
        by_cases c8 : a0.toList = ([114, 101, 109, 95, 115] : List UInt8)
        · rw [if_pos c8] at H
          have c8b0 : (a0.toList == ([114, 101, 109, 95, 115] : List UInt8)) = true := beq_iff_eq.mpr c8
          have c8b1 : (a0.toList != ([114, 101, 109, 95, 115] : List UInt8)) = false := bne_eq_false_iff_eq.mpr c8
          clear c8
          replace H := Option.bind_eq_some_iff.mp H
          obtain ⟨t255, A90, H⟩ := H
          replace H : ((mandrelref02_away.f a2 a3).bind fun t256 => (if t256 = 0 then (none) else ((mandrelref02_negative.f a1 a3).bind fun t257 => (if t257 = true then ((mandrelref02_low.f (IntKind.u64.wrap (-(Int.tmod t255 t256))) a3).bind fun t258 => (some (t258, 0))) else (some (Int.tmod t255 t256, 0)))))) = some (r1, r2) := H
          have A9 := Aside0.mk A90
          clear A90
          replace H := Option.bind_eq_some_iff.mp H
          obtain ⟨t256, A100, H⟩ := H
          replace H : (if t256 = 0 then (none) else ((mandrelref02_negative.f a1 a3).bind fun t257 => (if t257 = true then ((mandrelref02_low.f (IntKind.u64.wrap (-(Int.tmod t255 t256))) a3).bind fun t258 => (some (t258, 0))) else (some (Int.tmod t255 t256, 0))))) = some (r1, r2) := H
          have A10 := Aside0.mk A100
          clear A100
          by_cases c11 : t256 = 0
          · rw [if_pos c11] at H
            exact absurd H (by simp)
          · rw [if_neg c11] at H
            have c11b0 : (t256 == 0) = false := beq_eq_false_iff_ne.mpr c11
            have c11b1 : (t256 != 0) = true := bne_iff_ne.mpr c11
            replace H := Option.bind_eq_some_iff.mp H
            obtain ⟨t257, A120, H⟩ := H
            replace H : (if t257 = true then ((mandrelref02_low.f (IntKind.u64.wrap (-(Int.tmod t255 t256))) a3).bind fun t258 => (some (t258, 0))) else (some (Int.tmod t255 t256, 0))) = some (r1, r2) := H
            have A12 := Aside0.mk A120
            clear A120
            by_cases c13 : t257 = true
            · subst c13
              have H1 : ((mandrelref02_low.f (IntKind.u64.wrap (-(Int.tmod t255 t256))) a3).bind fun t258 => (some (t258, 0))) = some (r1, r2) := by rw [if_pos rfl] at H; exact H
              clear H
              have H := H1
              clear H1
              replace H := Option.bind_eq_some_iff.mp H
              obtain ⟨t258, A140, H⟩ := H
              replace H : (some (t258, 0)) = some (r1, r2) := H
              have A14 := Aside0.mk A140
              clear A140
              simp only [Option.some.injEq, Prod.mk.injEq] at H
              obtain ⟨rfl, rfl⟩ := H
              go_enter Tryd.func31, Tryd.ntmps31
              go_wp2_with (first | ((with_reducible refine gate_callee (f := 41) rfl ?_); refine goesL_ _ rfl rfl Tryd.func41 (by kernel_rfl) rfl #[.int .u64 a1, .int .i64 a3] rfl (by (try simp only [List.map_toArray, List.map_cons, List.map_nil]); first | done | rfl | (simp only [List.length_drop, List.length_take]; rfl)) ?_; (with_reducible refine (mandrelref02_away.calls a1 a3 t255 _ A9.out).mono ?_); rintro e w' ⟨rfl, ⟨nd, rfl⟩⟩; refine ⟨_, rfl, ?_⟩) | ((with_reducible refine gate_callee (f := 41) rfl ?_); refine goesL_ _ rfl rfl Tryd.func41 (by kernel_rfl) rfl #[.int .u64 a2, .int .i64 a3] rfl (by (try simp only [List.map_toArray, List.map_cons, List.map_nil]); first | done | rfl | (simp only [List.length_drop, List.length_take]; rfl)) ?_; (with_reducible refine (mandrelref02_away.calls a2 a3 t256 _ A10.out).mono ?_); rintro e w' ⟨rfl, ⟨nd, rfl⟩⟩; refine ⟨_, rfl, ?_⟩) | ((with_reducible refine gate_callee (f := 42) rfl ?_); refine goesL_ _ rfl rfl Tryd.func42 (by kernel_rfl) rfl #[.int .u64 a1, .int .i64 a3] rfl (by (try simp only [List.map_toArray, List.map_cons, List.map_nil]); first | done | rfl | (simp only [List.length_drop, List.length_take]; rfl)) ?_; (with_reducible refine (mandrelref02_negative.calls a1 a3 true _ A12.out).mono ?_); rintro e w' ⟨rfl, ⟨nd, rfl⟩⟩; refine ⟨_, rfl, ?_⟩) | ((with_reducible refine gate_callee (f := 26) rfl ?_); refine goesL_ _ rfl rfl Tryd.func26 (by kernel_rfl) rfl #[.int .u64 (IntKind.u64.wrap (-(Int.tmod t255 t256))), .int .i64 a3] rfl (by (try simp only [List.map_toArray, List.map_cons, List.map_nil]); first | done | rfl | (simp only [List.length_drop, List.length_take]; rfl)) ?_; (with_reducible refine (mandrelref02_low.calls (IntKind.u64.wrap (-(Int.tmod t255 t256))) a3 t258 _ A14.out).mono ?_); rintro e w' ⟨rfl, ⟨nd, rfl⟩⟩; refine ⟨_, rfl, ?_⟩))
              go_ret2
              exact ⟨by first | rfl | (simp; done) | (simp [*]; done), by repeat (first | exact Drawn0.refl _ | apply Drawn0.step)⟩
            · replace c13 := Bool.eq_false_iff.mpr c13
              subst c13
              have H1 : (some (Int.tmod t255 t256, 0)) = some (r1, r2) := by rw [if_neg (show ¬ (false = true) by decide)] at H; exact H
              clear H
              have H := H1
              clear H1
              simp only [Option.some.injEq, Prod.mk.injEq] at H
              obtain ⟨rfl, rfl⟩ := H
              go_enter Tryd.func31, Tryd.ntmps31
              go_wp2_with (first | ((with_reducible refine gate_callee (f := 41) rfl ?_); refine goesL_ _ rfl rfl Tryd.func41 (by kernel_rfl) rfl #[.int .u64 a1, .int .i64 a3] rfl (by (try simp only [List.map_toArray, List.map_cons, List.map_nil]); first | done | rfl | (simp only [List.length_drop, List.length_take]; rfl)) ?_; (with_reducible refine (mandrelref02_away.calls a1 a3 t255 _ A9.out).mono ?_); rintro e w' ⟨rfl, ⟨nd, rfl⟩⟩; refine ⟨_, rfl, ?_⟩) | ((with_reducible refine gate_callee (f := 41) rfl ?_); refine goesL_ _ rfl rfl Tryd.func41 (by kernel_rfl) rfl #[.int .u64 a2, .int .i64 a3] rfl (by (try simp only [List.map_toArray, List.map_cons, List.map_nil]); first | done | rfl | (simp only [List.length_drop, List.length_take]; rfl)) ?_; (with_reducible refine (mandrelref02_away.calls a2 a3 t256 _ A10.out).mono ?_); rintro e w' ⟨rfl, ⟨nd, rfl⟩⟩; refine ⟨_, rfl, ?_⟩) | ((with_reducible refine gate_callee (f := 42) rfl ?_); refine goesL_ _ rfl rfl Tryd.func42 (by kernel_rfl) rfl #[.int .u64 a1, .int .i64 a3] rfl (by (try simp only [List.map_toArray, List.map_cons, List.map_nil]); first | done | rfl | (simp only [List.length_drop, List.length_take]; rfl)) ?_; (with_reducible refine (mandrelref02_negative.calls a1 a3 false _ A12.out).mono ?_); rintro e w' ⟨rfl, ⟨nd, rfl⟩⟩; refine ⟨_, rfl, ?_⟩))
              go_ret2
              exact ⟨by first | rfl | (simp; done) | (simp [*]; done), by repeat (first | exact Drawn0.refl _ | apply Drawn0.step)⟩
        · rw [if_neg c8] at H
          have c8b0 : (a0.toList == ([114, 101, 109, 95, 115] : List UInt8)) = false := beq_eq_false_iff_ne.mpr c8
          have c8b1 : (a0.toList != ([114, 101, 109, 95, 115] : List UInt8)) = true := bne_iff_ne.mpr c8
          replace H := Option.bind_eq_some_iff.mp H
          obtain ⟨t259, A150, H⟩ := H
          replace H : ((mandrelref02_away.f a2 a3).bind fun t260 => (if t260 = 0 then (none) else ((mandrelref02_negative.f a1 a3).bind fun t261 => ((mandrelref02_negative.f a2 a3).bind fun t262 => (if (t261 != t262) = true then ((mandrelref02_low.f (IntKind.u64.wrap (-(IntKind.u64.wrap (Int.tdiv t259 t260)))) a3).bind fun t263 => (some (t263, 0))) else ((mandrelref02_negative.f (IntKind.u64.wrap (Int.tdiv t259 t260)) a3).bind fun t264 => (if t264 = true then (some (0, 3)) else (some (IntKind.u64.wrap (Int.tdiv t259 t260), 0))))))))) = some (r1, r2) := H
          have A15 := Aside0.mk A150
          clear A150
          replace H := Option.bind_eq_some_iff.mp H
          obtain ⟨t260, A160, H⟩ := H
          replace H : (if t260 = 0 then (none) else ((mandrelref02_negative.f a1 a3).bind fun t261 => ((mandrelref02_negative.f a2 a3).bind fun t262 => (if (t261 != t262) = true then ((mandrelref02_low.f (IntKind.u64.wrap (-(IntKind.u64.wrap (Int.tdiv t259 t260)))) a3).bind fun t263 => (some (t263, 0))) else ((mandrelref02_negative.f (IntKind.u64.wrap (Int.tdiv t259 t260)) a3).bind fun t264 => (if t264 = true then (some (0, 3)) else (some (IntKind.u64.wrap (Int.tdiv t259 t260), 0)))))))) = some (r1, r2) := H
          have A16 := Aside0.mk A160
          clear A160
          by_cases c17 : t260 = 0
          · rw [if_pos c17] at H
            exact absurd H (by simp)
          · rw [if_neg c17] at H
            have c17b0 : (t260 == 0) = false := beq_eq_false_iff_ne.mpr c17
            have c17b1 : (t260 != 0) = true := bne_iff_ne.mpr c17
            replace H := Option.bind_eq_some_iff.mp H
            obtain ⟨t261, A180, H⟩ := H
            replace H : ((mandrelref02_negative.f a2 a3).bind fun t262 => (if (t261 != t262) = true then ((mandrelref02_low.f (IntKind.u64.wrap (-(IntKind.u64.wrap (Int.tdiv t259 t260)))) a3).bind fun t263 => (some (t263, 0))) else ((mandrelref02_negative.f (IntKind.u64.wrap (Int.tdiv t259 t260)) a3).bind fun t264 => (if t264 = true then (some (0, 3)) else (some (IntKind.u64.wrap (Int.tdiv t259 t260), 0)))))) = some (r1, r2) := H
            have A18 := Aside0.mk A180
            clear A180
            replace H := Option.bind_eq_some_iff.mp H
            obtain ⟨t262, A190, H⟩ := H
            replace H : (if (t261 != t262) = true then ((mandrelref02_low.f (IntKind.u64.wrap (-(IntKind.u64.wrap (Int.tdiv t259 t260)))) a3).bind fun t263 => (some (t263, 0))) else ((mandrelref02_negative.f (IntKind.u64.wrap (Int.tdiv t259 t260)) a3).bind fun t264 => (if t264 = true then (some (0, 3)) else (some (IntKind.u64.wrap (Int.tdiv t259 t260), 0))))) = some (r1, r2) := H
            have A19 := Aside0.mk A190
            clear A190
            by_cases c20 : (t261 != t262) = true
            · rw [if_pos c20] at H
              have c20b0 : (t261 != t262) = true := c20
              (try (have c20b1 : decide (t261 = t262) = false := by simpa using c20))
              (try (have c20b2 : (t261 == t262) = false := by simpa using c20))
              (try (have c20b3 : ¬ (t261 = t262) := by simpa using c20))
              clear c20
              replace H := Option.bind_eq_some_iff.mp H
              obtain ⟨t263, A210, H⟩ := H
              replace H : (some (t263, 0)) = some (r1, r2) := H
              have A21 := Aside0.mk A210
              clear A210
              simp only [Option.some.injEq, Prod.mk.injEq] at H
              obtain ⟨rfl, rfl⟩ := H
              go_enter Tryd.func31, Tryd.ntmps31
              go_wp2_with (first | ((with_reducible refine gate_callee (f := 41) rfl ?_); refine goesL_ _ rfl rfl Tryd.func41 (by kernel_rfl) rfl #[.int .u64 a1, .int .i64 a3] rfl (by (try simp only [List.map_toArray, List.map_cons, List.map_nil]); first | done | rfl | (simp only [List.length_drop, List.length_take]; rfl)) ?_; (with_reducible refine (mandrelref02_away.calls a1 a3 t259 _ A15.out).mono ?_); rintro e w' ⟨rfl, ⟨nd, rfl⟩⟩; refine ⟨_, rfl, ?_⟩) | ((with_reducible refine gate_callee (f := 41) rfl ?_); refine goesL_ _ rfl rfl Tryd.func41 (by kernel_rfl) rfl #[.int .u64 a2, .int .i64 a3] rfl (by (try simp only [List.map_toArray, List.map_cons, List.map_nil]); first | done | rfl | (simp only [List.length_drop, List.length_take]; rfl)) ?_; (with_reducible refine (mandrelref02_away.calls a2 a3 t260 _ A16.out).mono ?_); rintro e w' ⟨rfl, ⟨nd, rfl⟩⟩; refine ⟨_, rfl, ?_⟩) | ((with_reducible refine gate_callee (f := 42) rfl ?_); refine goesL_ _ rfl rfl Tryd.func42 (by kernel_rfl) rfl #[.int .u64 a1, .int .i64 a3] rfl (by (try simp only [List.map_toArray, List.map_cons, List.map_nil]); first | done | rfl | (simp only [List.length_drop, List.length_take]; rfl)) ?_; (with_reducible refine (mandrelref02_negative.calls a1 a3 t261 _ A18.out).mono ?_); rintro e w' ⟨rfl, ⟨nd, rfl⟩⟩; refine ⟨_, rfl, ?_⟩) | ((with_reducible refine gate_callee (f := 42) rfl ?_); refine goesL_ _ rfl rfl Tryd.func42 (by kernel_rfl) rfl #[.int .u64 a2, .int .i64 a3] rfl (by (try simp only [List.map_toArray, List.map_cons, List.map_nil]); first | done | rfl | (simp only [List.length_drop, List.length_take]; rfl)) ?_; (with_reducible refine (mandrelref02_negative.calls a2 a3 t262 _ A19.out).mono ?_); rintro e w' ⟨rfl, ⟨nd, rfl⟩⟩; refine ⟨_, rfl, ?_⟩) | ((with_reducible refine gate_callee (f := 26) rfl ?_); refine goesL_ _ rfl rfl Tryd.func26 (by kernel_rfl) rfl #[.int .u64 (IntKind.u64.wrap (-(IntKind.u64.wrap (Int.tdiv t259 t260)))), .int .i64 a3] rfl (by (try simp only [List.map_toArray, List.map_cons, List.map_nil]); first | done | rfl | (simp only [List.length_drop, List.length_take]; rfl)) ?_; (with_reducible refine (mandrelref02_low.calls (IntKind.u64.wrap (-(IntKind.u64.wrap (Int.tdiv t259 t260)))) a3 t263 _ A21.out).mono ?_); rintro e w' ⟨rfl, ⟨nd, rfl⟩⟩; refine ⟨_, rfl, ?_⟩))
              go_ret2
              exact ⟨by first | rfl | (simp; done) | (simp [*]; done), by repeat (first | exact Drawn0.refl _ | apply Drawn0.step)⟩
            · rw [if_neg c20] at H
              have c20b0 : (t261 != t262) = false := by simpa using c20
              (try (have c20b1 : decide (t261 = t262) = true := by simpa using c20))
              (try (have c20b2 : (t261 == t262) = true := by simpa using c20))
              clear c20
              replace H := Option.bind_eq_some_iff.mp H
              obtain ⟨t264, A220, H⟩ := H
              replace H : (if t264 = true then (some (0, 3)) else (some (IntKind.u64.wrap (Int.tdiv t259 t260), 0))) = some (r1, r2) := H
              have A22 := Aside0.mk A220
              clear A220
              by_cases c23 : t264 = true
              · subst c23
                have H1 : (some (0, 3)) = some (r1, r2) := by rw [if_pos rfl] at H; exact H
                clear H
                have H := H1
                clear H1
                simp only [Option.some.injEq, Prod.mk.injEq] at H
                obtain ⟨rfl, rfl⟩ := H
                go_enter Tryd.func31, Tryd.ntmps31
                go_wp2_with (first | ((with_reducible refine gate_callee (f := 41) rfl ?_); refine goesL_ _ rfl rfl Tryd.func41 (by kernel_rfl) rfl #[.int .u64 a1, .int .i64 a3] rfl (by (try simp only [List.map_toArray, List.map_cons, List.map_nil]); first | done | rfl | (simp only [List.length_drop, List.length_take]; rfl)) ?_; (with_reducible refine (mandrelref02_away.calls a1 a3 t259 _ A15.out).mono ?_); rintro e w' ⟨rfl, ⟨nd, rfl⟩⟩; refine ⟨_, rfl, ?_⟩) | ((with_reducible refine gate_callee (f := 41) rfl ?_); refine goesL_ _ rfl rfl Tryd.func41 (by kernel_rfl) rfl #[.int .u64 a2, .int .i64 a3] rfl (by (try simp only [List.map_toArray, List.map_cons, List.map_nil]); first | done | rfl | (simp only [List.length_drop, List.length_take]; rfl)) ?_; (with_reducible refine (mandrelref02_away.calls a2 a3 t260 _ A16.out).mono ?_); rintro e w' ⟨rfl, ⟨nd, rfl⟩⟩; refine ⟨_, rfl, ?_⟩) | ((with_reducible refine gate_callee (f := 42) rfl ?_); refine goesL_ _ rfl rfl Tryd.func42 (by kernel_rfl) rfl #[.int .u64 a1, .int .i64 a3] rfl (by (try simp only [List.map_toArray, List.map_cons, List.map_nil]); first | done | rfl | (simp only [List.length_drop, List.length_take]; rfl)) ?_; (with_reducible refine (mandrelref02_negative.calls a1 a3 t261 _ A18.out).mono ?_); rintro e w' ⟨rfl, ⟨nd, rfl⟩⟩; refine ⟨_, rfl, ?_⟩) | ((with_reducible refine gate_callee (f := 42) rfl ?_); refine goesL_ _ rfl rfl Tryd.func42 (by kernel_rfl) rfl #[.int .u64 a2, .int .i64 a3] rfl (by (try simp only [List.map_toArray, List.map_cons, List.map_nil]); first | done | rfl | (simp only [List.length_drop, List.length_take]; rfl)) ?_; (with_reducible refine (mandrelref02_negative.calls a2 a3 t262 _ A19.out).mono ?_); rintro e w' ⟨rfl, ⟨nd, rfl⟩⟩; refine ⟨_, rfl, ?_⟩) | ((with_reducible refine gate_callee (f := 42) rfl ?_); refine goesL_ _ rfl rfl Tryd.func42 (by kernel_rfl) rfl #[.int .u64 (IntKind.u64.wrap (Int.tdiv t259 t260)), .int .i64 a3] rfl (by (try simp only [List.map_toArray, List.map_cons, List.map_nil]); first | done | rfl | (simp only [List.length_drop, List.length_take]; rfl)) ?_; (with_reducible refine (mandrelref02_negative.calls (IntKind.u64.wrap (Int.tdiv t259 t260)) a3 true _ A22.out).mono ?_); rintro e w' ⟨rfl, ⟨nd, rfl⟩⟩; refine ⟨_, rfl, ?_⟩))
                go_ret2
                exact ⟨by first | rfl | (simp; done) | (simp [*]; done), by repeat (first | exact Drawn0.refl _ | apply Drawn0.step)⟩
              · replace c23 := Bool.eq_false_iff.mpr c23
                subst c23
                have H1 : (some (IntKind.u64.wrap (Int.tdiv t259 t260), 0)) = some (r1, r2) := by rw [if_neg (show ¬ (false = true) by decide)] at H; exact H
                clear H
                have H := H1
                clear H1
                simp only [Option.some.injEq, Prod.mk.injEq] at H
                obtain ⟨rfl, rfl⟩ := H
                go_enter Tryd.func31, Tryd.ntmps31
                go_wp2_with (first | ((with_reducible refine gate_callee (f := 41) rfl ?_); refine goesL_ _ rfl rfl Tryd.func41 (by kernel_rfl) rfl #[.int .u64 a1, .int .i64 a3] rfl (by (try simp only [List.map_toArray, List.map_cons, List.map_nil]); first | done | rfl | (simp only [List.length_drop, List.length_take]; rfl)) ?_; (with_reducible refine (mandrelref02_away.calls a1 a3 t259 _ A15.out).mono ?_); rintro e w' ⟨rfl, ⟨nd, rfl⟩⟩; refine ⟨_, rfl, ?_⟩) | ((with_reducible refine gate_callee (f := 41) rfl ?_); refine goesL_ _ rfl rfl Tryd.func41 (by kernel_rfl) rfl #[.int .u64 a2, .int .i64 a3] rfl (by (try simp only [List.map_toArray, List.map_cons, List.map_nil]); first | done | rfl | (simp only [List.length_drop, List.length_take]; rfl)) ?_; (with_reducible refine (mandrelref02_away.calls a2 a3 t260 _ A16.out).mono ?_); rintro e w' ⟨rfl, ⟨nd, rfl⟩⟩; refine ⟨_, rfl, ?_⟩) | ((with_reducible refine gate_callee (f := 42) rfl ?_); refine goesL_ _ rfl rfl Tryd.func42 (by kernel_rfl) rfl #[.int .u64 a1, .int .i64 a3] rfl (by (try simp only [List.map_toArray, List.map_cons, List.map_nil]); first | done | rfl | (simp only [List.length_drop, List.length_take]; rfl)) ?_; (with_reducible refine (mandrelref02_negative.calls a1 a3 t261 _ A18.out).mono ?_); rintro e w' ⟨rfl, ⟨nd, rfl⟩⟩; refine ⟨_, rfl, ?_⟩) | ((with_reducible refine gate_callee (f := 42) rfl ?_); refine goesL_ _ rfl rfl Tryd.func42 (by kernel_rfl) rfl #[.int .u64 a2, .int .i64 a3] rfl (by (try simp only [List.map_toArray, List.map_cons, List.map_nil]); first | done | rfl | (simp only [List.length_drop, List.length_take]; rfl)) ?_; (with_reducible refine (mandrelref02_negative.calls a2 a3 t262 _ A19.out).mono ?_); rintro e w' ⟨rfl, ⟨nd, rfl⟩⟩; refine ⟨_, rfl, ?_⟩) | ((with_reducible refine gate_callee (f := 42) rfl ?_); refine goesL_ _ rfl rfl Tryd.func42 (by kernel_rfl) rfl #[.int .u64 (IntKind.u64.wrap (Int.tdiv t259 t260)), .int .i64 a3] rfl (by (try simp only [List.map_toArray, List.map_cons, List.map_nil]); first | done | rfl | (simp only [List.length_drop, List.length_take]; rfl)) ?_; (with_reducible refine (mandrelref02_negative.calls (IntKind.u64.wrap (Int.tdiv t259 t260)) a3 false _ A22.out).mono ?_); rintro e w' ⟨rfl, ⟨nd, rfl⟩⟩; refine ⟨_, rfl, ?_⟩))
                go_ret2
                exact ⟨by first | rfl | (simp; done) | (simp [*]; done), by repeat (first | exact Drawn0.refl _ | apply Drawn0.step)⟩

/-! ### mandrelref02_moved: function 32 -/
def mandrelref02_moved.l0 : Nat → ByteArray → Int → Int → Int → List Bool → Int → Option (Int)
  | 0, _, _, _, _, _, _ => none
  | k + 1, x0, x1, x2, x3, x9, x10 => if x10 < x3 then (if x0.toList = ([115, 104, 108] : List UInt8) then (if x10 ≥ x2 then (if x3 = 0 then (none) else ((mandrelref02_bit.f x1 (Int.tmod (wrap64 ((wrap64 (x10 + x3)) - x2)) x3)).bind fun t266 => (if x9.length < 140737488355328 then (mandrelref02_moved.l0 k x0 x1 x2 x3 (x9 ++ [t266]) (wrap64 (x10 + 1))) else (none)))) else (if x9.length < 140737488355328 then (mandrelref02_moved.l0 k x0 x1 x2 x3 (x9 ++ [false]) (wrap64 (x10 + 1))) else (none))) else (if x0.toList = ([115, 104, 114, 95, 117] : List UInt8) then (if (wrap64 (x10 + x2)) < x3 then (if x3 = 0 then (none) else ((mandrelref02_bit.f x1 (Int.tmod (wrap64 (x10 + x2)) x3)).bind fun t273 => (if x9.length < 140737488355328 then (mandrelref02_moved.l0 k x0 x1 x2 x3 (x9 ++ [t273]) (wrap64 (x10 + 1))) else (none)))) else (if x9.length < 140737488355328 then (mandrelref02_moved.l0 k x0 x1 x2 x3 (x9 ++ [false]) (wrap64 (x10 + 1))) else (none))) else (if x0.toList = ([115, 104, 114, 95, 115] : List UInt8) then ((mandrelref02_bit.f x1 (mn (wrap64 (x10 + x2)) (wrap64 (x3 - 1)))).bind fun t280 => (if x9.length < 140737488355328 then (mandrelref02_moved.l0 k x0 x1 x2 x3 (x9 ++ [t280]) (wrap64 (x10 + 1))) else (none))) else (if x0.toList = ([114, 111, 116, 108] : List UInt8) then (if x3 = 0 then (none) else ((mandrelref02_bit.f x1 (Int.tmod (wrap64 ((wrap64 (x10 + x3)) - x2)) x3)).bind fun t284 => (if x9.length < 140737488355328 then (mandrelref02_moved.l0 k x0 x1 x2 x3 (x9 ++ [t284]) (wrap64 (x10 + 1))) else (none)))) else (if x3 = 0 then (none) else ((mandrelref02_bit.f x1 (Int.tmod (wrap64 (x10 + x2)) x3)).bind fun t288 => (if x9.length < 140737488355328 then (mandrelref02_moved.l0 k x0 x1 x2 x3 (x9 ++ [t288]) (wrap64 (x10 + 1))) else (none)))))))) else ((mandrelref02_made.f k x9).bind fun t265 => (some t265))
def mandrelref02_moved.f (k : Nat) (a0 : ByteArray) (a1 : Int) (a2 : Int) (a3 : Int) : Option (Int) := mandrelref02_moved.l0 k a0 a1 a2 a3 ([] : List Bool) 0
theorem mandrelref02_moved.mono_l : ∀ k, (∀ y0 y1 y2 y3 y4 y5, LeO (mandrelref02_moved.l0 k y0 y1 y2 y3 y4 y5) (mandrelref02_moved.l0 (k + 1) y0 y1 y2 y3 y4 y5))
  | 0 => fun _ _ _ _ _ _ r h => by simp [mandrelref02_moved.l0] at h
  | k + 1 => by
    have ih0 := mandrelref02_moved.mono_l k
    · intro y0 y1 y2 y3 y4 y5
      unfold mandrelref02_moved.l0
      repeat' first
      | (with_reducible exact ih0 _ _ _ _ _ _)
      | (with_reducible exact mandrelref02_made.mono _ _)
      | (with_reducible exact LeO.refl _)
      | (with_reducible exact LeO.none _)
      | (with_reducible refine LeO.ite ?_ ?_)
      | (with_reducible refine LeO.bind ?_ (fun _ => ?_))
      | exact ih0 _ _ _ _ _ _
      | exact mandrelref02_made.mono _ _
      | exact LeO.none _
      | refine LeO.ite ?_ ?_
      | refine LeO.bind ?_ (fun _ => ?_)
theorem mandrelref02_moved.mono : ∀ a0 a1 a2 a3 k, LeO (mandrelref02_moved.f k a0 a1 a2 a3) (mandrelref02_moved.f (k + 1) a0 a1 a2 a3) := by
  intro a0 a1 a2 a3 k
  have ih0 := mandrelref02_moved.mono_l k
  unfold mandrelref02_moved.f
  repeat' first
      | (with_reducible exact ih0 _ _ _ _ _ _)
      | (with_reducible exact mandrelref02_made.mono _ _)
      | (with_reducible exact LeO.refl _)
      | (with_reducible exact LeO.none _)
      | (with_reducible refine LeO.ite ?_ ?_)
      | (with_reducible refine LeO.bind ?_ (fun _ => ?_))
      | exact ih0 _ _ _ _ _ _
      | exact mandrelref02_made.mono _ _
      | exact LeO.none _
      | refine LeO.ite ?_ ?_
      | refine LeO.bind ?_ (fun _ => ?_)
set_option maxHeartbeats 8000000 in
set_option maxRecDepth 100000 in
theorem mandrelref02_moved.calls (k : Nat) (a0 : ByteArray) (a1 : Int) (a2 : Int) (a3 : Int) (r : Int) (w : World) (h : mandrelref02_moved.f k a0 a1 a2 a3 = some r) :
    Calls Tryd.prog 32 #[.string a0, .int .u64 a1, .int .i64 a2, .int .i64 a3] w fun e w' => e = .returned (.int .u64 r) ∧ Below w.heap.size w w' := by
  have HB := Aside0.mk (Below.refl w.heap.size w)
  have H : (mandrelref02_moved.l0 k a0 a1 a2 a3 ([] : List Bool) 0) = some r := h
  clear h
  have H' := Aside0.mk H
  clear H
  go_enter Tryd.func32, Tryd.ntmps32
  go_wp2
  go_loopg [9, 10] k (fun kq v9 v10 w' => ∃ (x9_1 : List Bool) (x10_1 : Int), v10 = .int .i64 x10_1 ∧ Aside0 (mandrelref02_moved.l0 kq a0 a1 a2 a3 x9_1 x10_1 = some r) ∧ Aside0 (kq ≤ k) ∧ Aside0 (Kd.R Kd.bool 4 w' w.heap.size (fun _ => True) v9 x9_1) ∧ Aside0 (Below w.heap.size w w'))
  case atStart => exact ⟨(([] : List Bool)), (0), (by first | rfl | (simp; done) | (simp [*]; done)), H', ⟨Nat.le_refl _⟩, ⟨by first | exact Kd.R_nil _ _ _ _ _ | exact Kd.N_nil _ _ _ _ _ | exact Kd.V_nil _ _ _ _ _ | exact Kd.Q_nil _ _ _ _ _ | exact Kd.S_nil _ _ _ _ _⟩, ⟨by repeat (first | (with_reducible first | exact HB.out | apply below_alloc | apply pw_below_drewN | apply below_drew1) | exact HB.out)⟩⟩
  case round =>
    clear H'
    try clear p2
    try clear c3
    obtain ⟨x9_1, x10_1, rfl, HA, HK1, HO_9, HB⟩ := hrel
    cases gk with
    | zero => exact absurd HA.out (by simp [mandrelref02_moved.l0])
    | succ k1 =>
      have H := HA.out
      clear HA
      simp only [mandrelref02_moved.l0] at H
      by_cases c5 : x10_1 < a3
      · rw [if_pos c5] at H
        have c5b0 : decide (x10_1 < a3) = true := decide_eq_true c5
        clear c5
        by_cases c6 : a0.toList = ([115, 104, 108] : List UInt8)
        · rw [if_pos c6] at H
          have c6b0 : (a0.toList == ([115, 104, 108] : List UInt8)) = true := beq_iff_eq.mpr c6
          have c6b1 : (a0.toList != ([115, 104, 108] : List UInt8)) = false := bne_eq_false_iff_eq.mpr c6
          clear c6
          by_cases c7 : x10_1 ≥ a2
          · rw [if_pos c7] at H
            have c7b0 : decide (a2 ≤ x10_1) = true := decide_eq_true c7
            clear c7
            by_cases c8 : a3 = 0
            · rw [if_pos c8] at H
              exact absurd H (by simp)
            · rw [if_neg c8] at H
              have c8b0 : (a3 == 0) = false := beq_eq_false_iff_ne.mpr c8
              have c8b1 : (a3 != 0) = true := bne_iff_ne.mpr c8
              replace H := Option.bind_eq_some_iff.mp H
              obtain ⟨t266, A90, H⟩ := H
              replace H : (if x9_1.length < 140737488355328 then (mandrelref02_moved.l0 k1 a0 a1 a2 a3 (x9_1 ++ [t266]) (wrap64 (x10_1 + 1))) else (none)) = some r := H
              have A9 := Aside0.mk A90
              clear A90
              by_cases c10 : x9_1.length < 140737488355328
              · rw [if_pos c10] at H
                have LMc10 := Aside0.mk c10
                clear c10
                obtain ⟨y267, hy267⟩ : ∃ y_ : List Bool, y_ = (x9_1 ++ [t266]) := ⟨_, rfl⟩
                replace H : (mandrelref02_moved.l0 k1 a0 a1 a2 a3 y267 (wrap64 (x10_1 + 1))) = some r := by first | (rw [hy267]; with_reducible exact H) | (have H2_ := (Option.bind_some _ _).symm.trans H; rw [hy267]; with_reducible exact H2_) | (have H2_ := (Option.bind_some _ _).symm.trans H; with_reducible exact H2_) | with_reducible exact H | (rw [hy267]; exact H) | exact H
                have Ny267 := Aside0.mk hy267
                clear hy267
                have H' := Aside0.mk H
                clear H
                go_wp2_with (first | (go_at_call 27; (with_reducible refine (mandrelref02_bit.calls a1 (Int.tmod (wrap64 ((wrap64 (x10_1 + a3)) - a2)) a3) t266 _ A9.out).mono ?_); rintro e w' ⟨rfl, ⟨nd, rfl⟩⟩) | ((with_reducible refine gate_builtin (b := .append) (xs := #[.tmp 29, .tmp 44]) rfl ?_); at_builtin; refine Kd.R_append Kd.bool (w0 := w) w.heap.size rfl (.tmp 29) (.tmp 44) 63 4 (.bool false) 1 rfl Tryd.underlying63 info4 rfl (by decide) (by omega) u9 x9_1 t266 [.bool t266] (fun _ => True) (fun _ => False) rfl rfl ?aP (fun _ hk => hk.elim) ?aF ?aO ?aB ?aS ?aL ?_; (case aP => exact rfl); (case aB => exact (by repeat (first | (with_reducible first | exact HB.out | apply below_alloc | apply pw_below_drewN | apply below_drew1) | exact HB.out))); (case aF => exact (fun _ _ => trivial)); (case aO => exact (by (with_reducible repeat (first | apply Kd.R_alloc | apply Kd.R_drewN | apply Kd.R_drew)); exact HO_9.out)); (case aS => exact (below_size (by repeat (first | (with_reducible first | exact HB.out | apply below_alloc | apply pw_below_drewN | apply below_drew1) | exact HB.out)))); (case aL => have := LMc10.out; omega); intro v268 w11 ho hb hg hat; rw [← Ny267.out] at ho; have n0_ := Aside0.mk (hb); have n1_ := Aside0.mk (ho); clear HB; clear HO_9; have HB := n0_; have HO269 := n1_; clear n0_ n1_; clear ho hb hg hat))
                go_roundg k1
                case measure => have := HK1.out; omega
                case rel => exact ⟨(y267), (wrap64 (x10_1 + 1)), (by first | rfl | (simp; done) | (simp [*]; done)), H', ⟨by have := HK1.out; omega⟩, ⟨by (with_reducible repeat (first | apply Kd.R_alloc | apply Kd.R_drewN | apply Kd.R_drew)); exact HO269.out⟩, ⟨by repeat (first | (with_reducible first | exact HB.out | apply below_alloc | apply pw_below_drewN | apply below_drew1) | exact HB.out)⟩⟩
              · rw [if_neg c10] at H
                exact absurd H (by simp)
          · rw [if_neg c7] at H
            have c7b0 : decide (a2 ≤ x10_1) = false := decide_eq_false c7
            clear c7
            by_cases c12 : x9_1.length < 140737488355328
            · rw [if_pos c12] at H
              have LMc12 := Aside0.mk c12
              clear c12
              obtain ⟨y270, hy270⟩ : ∃ y_ : List Bool, y_ = (x9_1 ++ [false]) := ⟨_, rfl⟩
              replace H : (mandrelref02_moved.l0 k1 a0 a1 a2 a3 y270 (wrap64 (x10_1 + 1))) = some r := by first | (rw [hy270]; with_reducible exact H) | (have H2_ := (Option.bind_some _ _).symm.trans H; rw [hy270]; with_reducible exact H2_) | (have H2_ := (Option.bind_some _ _).symm.trans H; with_reducible exact H2_) | with_reducible exact H | (rw [hy270]; exact H) | exact H
              have Ny270 := Aside0.mk hy270
              clear hy270
              have H' := Aside0.mk H
              clear H
              go_wp2_with (first | ((with_reducible refine gate_builtin (b := .append) (xs := #[.tmp 29, .tmp 44]) rfl ?_); at_builtin; refine Kd.R_append Kd.bool (w0 := w) w.heap.size rfl (.tmp 29) (.tmp 44) 63 4 (.bool false) 1 rfl Tryd.underlying63 info4 rfl (by decide) (by omega) u9 x9_1 false [.bool false] (fun _ => True) (fun _ => False) rfl rfl ?aP (fun _ hk => hk.elim) ?aF ?aO ?aB ?aS ?aL ?_; (case aP => exact rfl); (case aB => exact (by repeat (first | (with_reducible first | exact HB.out | apply below_alloc | apply pw_below_drewN | apply below_drew1) | exact HB.out))); (case aF => exact (fun _ _ => trivial)); (case aO => exact (by (with_reducible repeat (first | apply Kd.R_alloc | apply Kd.R_drewN | apply Kd.R_drew)); exact HO_9.out)); (case aS => exact (below_size (by repeat (first | (with_reducible first | exact HB.out | apply below_alloc | apply pw_below_drewN | apply below_drew1) | exact HB.out)))); (case aL => have := LMc12.out; omega); intro v271 w13 ho hb hg hat; rw [← Ny270.out] at ho; have n0_ := Aside0.mk (hb); have n1_ := Aside0.mk (ho); clear HB; clear HO_9; have HB := n0_; have HO272 := n1_; clear n0_ n1_; clear ho hb hg hat))
              go_roundg k1
              case measure => have := HK1.out; omega
              case rel => exact ⟨(y270), (wrap64 (x10_1 + 1)), (by first | rfl | (simp; done) | (simp [*]; done)), H', ⟨by have := HK1.out; omega⟩, ⟨by (with_reducible repeat (first | apply Kd.R_alloc | apply Kd.R_drewN | apply Kd.R_drew)); exact HO272.out⟩, ⟨by repeat (first | (with_reducible first | exact HB.out | apply below_alloc | apply pw_below_drewN | apply below_drew1) | exact HB.out)⟩⟩
            · rw [if_neg c12] at H
              exact absurd H (by simp)
        · rw [if_neg c6] at H
          have c6b0 : (a0.toList == ([115, 104, 108] : List UInt8)) = false := beq_eq_false_iff_ne.mpr c6
          have c6b1 : (a0.toList != ([115, 104, 108] : List UInt8)) = true := bne_iff_ne.mpr c6
          by_cases c14 : a0.toList = ([115, 104, 114, 95, 117] : List UInt8)
          · rw [if_pos c14] at H
            have c14b0 : (a0.toList == ([115, 104, 114, 95, 117] : List UInt8)) = true := beq_iff_eq.mpr c14
            have c14b1 : (a0.toList != ([115, 104, 114, 95, 117] : List UInt8)) = false := bne_eq_false_iff_eq.mpr c14
            clear c14
            by_cases c15 : (wrap64 (x10_1 + a2)) < a3
            · rw [if_pos c15] at H
              have c15b0 : decide ((wrap64 (x10_1 + a2)) < a3) = true := decide_eq_true c15
              clear c15
              by_cases c16 : a3 = 0
              · rw [if_pos c16] at H
                exact absurd H (by simp)
              · rw [if_neg c16] at H
                have c16b0 : (a3 == 0) = false := beq_eq_false_iff_ne.mpr c16
                have c16b1 : (a3 != 0) = true := bne_iff_ne.mpr c16
                replace H := Option.bind_eq_some_iff.mp H
                obtain ⟨t273, A170, H⟩ := H
                replace H : (if x9_1.length < 140737488355328 then (mandrelref02_moved.l0 k1 a0 a1 a2 a3 (x9_1 ++ [t273]) (wrap64 (x10_1 + 1))) else (none)) = some r := H
                have A17 := Aside0.mk A170
                clear A170
                by_cases c18 : x9_1.length < 140737488355328
                · rw [if_pos c18] at H
                  have LMc18 := Aside0.mk c18
                  clear c18
                  obtain ⟨y274, hy274⟩ : ∃ y_ : List Bool, y_ = (x9_1 ++ [t273]) := ⟨_, rfl⟩
                  replace H : (mandrelref02_moved.l0 k1 a0 a1 a2 a3 y274 (wrap64 (x10_1 + 1))) = some r := by first | (rw [hy274]; with_reducible exact H) | (have H2_ := (Option.bind_some _ _).symm.trans H; rw [hy274]; with_reducible exact H2_) | (have H2_ := (Option.bind_some _ _).symm.trans H; with_reducible exact H2_) | with_reducible exact H | (rw [hy274]; exact H) | exact H
                  have Ny274 := Aside0.mk hy274
                  clear hy274
                  have H' := Aside0.mk H
                  clear H
                  go_wp2_with (first | (go_at_call 27; (with_reducible refine (mandrelref02_bit.calls a1 (Int.tmod (wrap64 (x10_1 + a2)) a3) t273 _ A17.out).mono ?_); rintro e w' ⟨rfl, ⟨nd, rfl⟩⟩) | ((with_reducible refine gate_builtin (b := .append) (xs := #[.tmp 48, .tmp 63]) rfl ?_); at_builtin; refine Kd.R_append Kd.bool (w0 := w) w.heap.size rfl (.tmp 48) (.tmp 63) 63 4 (.bool false) 1 rfl Tryd.underlying63 info4 rfl (by decide) (by omega) u9 x9_1 t273 [.bool t273] (fun _ => True) (fun _ => False) rfl rfl ?aP (fun _ hk => hk.elim) ?aF ?aO ?aB ?aS ?aL ?_; (case aP => exact rfl); (case aB => exact (by repeat (first | (with_reducible first | exact HB.out | apply below_alloc | apply pw_below_drewN | apply below_drew1) | exact HB.out))); (case aF => exact (fun _ _ => trivial)); (case aO => exact (by (with_reducible repeat (first | apply Kd.R_alloc | apply Kd.R_drewN | apply Kd.R_drew)); exact HO_9.out)); (case aS => exact (below_size (by repeat (first | (with_reducible first | exact HB.out | apply below_alloc | apply pw_below_drewN | apply below_drew1) | exact HB.out)))); (case aL => have := LMc18.out; omega); intro v275 w19 ho hb hg hat; rw [← Ny274.out] at ho; have n0_ := Aside0.mk (hb); have n1_ := Aside0.mk (ho); clear HB; clear HO_9; have HB := n0_; have HO276 := n1_; clear n0_ n1_; clear ho hb hg hat))
                  go_roundg k1
                  case measure => have := HK1.out; omega
                  case rel => exact ⟨(y274), (wrap64 (x10_1 + 1)), (by first | rfl | (simp; done) | (simp [*]; done)), H', ⟨by have := HK1.out; omega⟩, ⟨by (with_reducible repeat (first | apply Kd.R_alloc | apply Kd.R_drewN | apply Kd.R_drew)); exact HO276.out⟩, ⟨by repeat (first | (with_reducible first | exact HB.out | apply below_alloc | apply pw_below_drewN | apply below_drew1) | exact HB.out)⟩⟩
                · rw [if_neg c18] at H
                  exact absurd H (by simp)
            · rw [if_neg c15] at H
              have c15b0 : decide ((wrap64 (x10_1 + a2)) < a3) = false := decide_eq_false c15
              clear c15
              by_cases c20 : x9_1.length < 140737488355328
              · rw [if_pos c20] at H
                have LMc20 := Aside0.mk c20
                clear c20
                obtain ⟨y277, hy277⟩ : ∃ y_ : List Bool, y_ = (x9_1 ++ [false]) := ⟨_, rfl⟩
                replace H : (mandrelref02_moved.l0 k1 a0 a1 a2 a3 y277 (wrap64 (x10_1 + 1))) = some r := by first | (rw [hy277]; with_reducible exact H) | (have H2_ := (Option.bind_some _ _).symm.trans H; rw [hy277]; with_reducible exact H2_) | (have H2_ := (Option.bind_some _ _).symm.trans H; with_reducible exact H2_) | with_reducible exact H | (rw [hy277]; exact H) | exact H
                have Ny277 := Aside0.mk hy277
                clear hy277
                have H' := Aside0.mk H
                clear H
                go_wp2_with (first | ((with_reducible refine gate_builtin (b := .append) (xs := #[.tmp 48, .tmp 63]) rfl ?_); at_builtin; refine Kd.R_append Kd.bool (w0 := w) w.heap.size rfl (.tmp 48) (.tmp 63) 63 4 (.bool false) 1 rfl Tryd.underlying63 info4 rfl (by decide) (by omega) u9 x9_1 false [.bool false] (fun _ => True) (fun _ => False) rfl rfl ?aP (fun _ hk => hk.elim) ?aF ?aO ?aB ?aS ?aL ?_; (case aP => exact rfl); (case aB => exact (by repeat (first | (with_reducible first | exact HB.out | apply below_alloc | apply pw_below_drewN | apply below_drew1) | exact HB.out))); (case aF => exact (fun _ _ => trivial)); (case aO => exact (by (with_reducible repeat (first | apply Kd.R_alloc | apply Kd.R_drewN | apply Kd.R_drew)); exact HO_9.out)); (case aS => exact (below_size (by repeat (first | (with_reducible first | exact HB.out | apply below_alloc | apply pw_below_drewN | apply below_drew1) | exact HB.out)))); (case aL => have := LMc20.out; omega); intro v278 w21 ho hb hg hat; rw [← Ny277.out] at ho; have n0_ := Aside0.mk (hb); have n1_ := Aside0.mk (ho); clear HB; clear HO_9; have HB := n0_; have HO279 := n1_; clear n0_ n1_; clear ho hb hg hat))
                go_roundg k1
                case measure => have := HK1.out; omega
                case rel => exact ⟨(y277), (wrap64 (x10_1 + 1)), (by first | rfl | (simp; done) | (simp [*]; done)), H', ⟨by have := HK1.out; omega⟩, ⟨by (with_reducible repeat (first | apply Kd.R_alloc | apply Kd.R_drewN | apply Kd.R_drew)); exact HO279.out⟩, ⟨by repeat (first | (with_reducible first | exact HB.out | apply below_alloc | apply pw_below_drewN | apply below_drew1) | exact HB.out)⟩⟩
              · rw [if_neg c20] at H
                exact absurd H (by simp)
          · rw [if_neg c14] at H
            have c14b0 : (a0.toList == ([115, 104, 114, 95, 117] : List UInt8)) = false := beq_eq_false_iff_ne.mpr c14
            have c14b1 : (a0.toList != ([115, 104, 114, 95, 117] : List UInt8)) = true := bne_iff_ne.mpr c14
            by_cases c22 : a0.toList = ([115, 104, 114, 95, 115] : List UInt8)
            · rw [if_pos c22] at H
              have c22b0 : (a0.toList == ([115, 104, 114, 95, 115] : List UInt8)) = true := beq_iff_eq.mpr c22
              have c22b1 : (a0.toList != ([115, 104, 114, 95, 115] : List UInt8)) = false := bne_eq_false_iff_eq.mpr c22
              clear c22
              obtain ⟨ji23, hji23⟩ : ∃ j_ : Int, (mn (wrap64 (x10_1 + a2)) (wrap64 (a3 - 1))) = j_ := ⟨_, rfl⟩
              replace H : ((mandrelref02_bit.f a1 (ji23)).bind fun t280 => (if x9_1.length < 140737488355328 then (mandrelref02_moved.l0 k1 a0 a1 a2 a3 (x9_1 ++ [t280]) (wrap64 (x10_1 + 1))) else (none))) = some r := by first | (rw [hji23] at H; exact H) | (simp only [hji23] at H ⊢; exact H)
              have hji23_ : (if (wrap64 (a3 - 1)) < (wrap64 (x10_1 + a2)) then (wrap64 (a3 - 1)) else (wrap64 (x10_1 + a2))) = ji23 := hji23
              replace H := Option.bind_eq_some_iff.mp H
              obtain ⟨t280, A240, H⟩ := H
              replace H : (if x9_1.length < 140737488355328 then (mandrelref02_moved.l0 k1 a0 a1 a2 a3 (x9_1 ++ [t280]) (wrap64 (x10_1 + 1))) else (none)) = some r := H
              have A24 := Aside0.mk A240
              clear A240
              by_cases c25 : x9_1.length < 140737488355328
              · rw [if_pos c25] at H
                have LMc25 := Aside0.mk c25
                clear c25
                obtain ⟨y281, hy281⟩ : ∃ y_ : List Bool, y_ = (x9_1 ++ [t280]) := ⟨_, rfl⟩
                replace H : (mandrelref02_moved.l0 k1 a0 a1 a2 a3 y281 (wrap64 (x10_1 + 1))) = some r := by first | (rw [hy281]; with_reducible exact H) | (have H2_ := (Option.bind_some _ _).symm.trans H; rw [hy281]; with_reducible exact H2_) | (have H2_ := (Option.bind_some _ _).symm.trans H; with_reducible exact H2_) | with_reducible exact H | (rw [hy281]; exact H) | exact H
                have Ny281 := Aside0.mk hy281
                clear hy281
                have H' := Aside0.mk H
                clear H
                go_wp2_with (first | ((with_reducible refine gate_callee (f := 27) rfl ?_); refine goesL_ (some 75) rfl rfl Tryd.func27 (by kernel_rfl) rfl #[.int .u64 a1, .int .i64 ji23] rfl (by (try simp only [List.map_toArray, List.map_cons, List.map_nil]); first | done | (simp only [hji23]; rfl) | rfl | (simp only [List.length_drop, List.length_take]; rfl)) ?_; (with_reducible refine (mandrelref02_bit.calls a1 ji23 t280 _ A24.out).mono ?_); rintro e w' ⟨rfl, ⟨nd, rfl⟩⟩; refine ⟨_, rfl, ?_⟩) | ((with_reducible refine gate_builtin (b := .append) (xs := #[.tmp 67, .tmp 76]) rfl ?_); at_builtin; refine Kd.R_append Kd.bool (w0 := w) w.heap.size rfl (.tmp 67) (.tmp 76) 63 4 (.bool false) 1 rfl Tryd.underlying63 info4 rfl (by decide) (by omega) u9 x9_1 t280 [.bool t280] (fun _ => True) (fun _ => False) rfl rfl ?aP (fun _ hk => hk.elim) ?aF ?aO ?aB ?aS ?aL ?_; (case aP => exact rfl); (case aB => exact (by repeat (first | (with_reducible first | exact HB.out | apply below_alloc | apply pw_below_drewN | apply below_drew1) | exact HB.out))); (case aF => exact (fun _ _ => trivial)); (case aO => exact (by (with_reducible repeat (first | apply Kd.R_alloc | apply Kd.R_drewN | apply Kd.R_drew)); exact HO_9.out)); (case aS => exact (below_size (by repeat (first | (with_reducible first | exact HB.out | apply below_alloc | apply pw_below_drewN | apply below_drew1) | exact HB.out)))); (case aL => have := LMc25.out; omega); intro v282 w26 ho hb hg hat; rw [← Ny281.out] at ho; have n0_ := Aside0.mk (hb); have n1_ := Aside0.mk (ho); clear HB; clear HO_9; have HB := n0_; have HO283 := n1_; clear n0_ n1_; clear ho hb hg hat))
                go_roundg k1
                case measure => have := HK1.out; omega
                case rel => exact ⟨(y281), (wrap64 (x10_1 + 1)), (by first | rfl | (simp; done) | (simp [*]; done)), H', ⟨by have := HK1.out; omega⟩, ⟨by (with_reducible repeat (first | apply Kd.R_alloc | apply Kd.R_drewN | apply Kd.R_drew)); exact HO283.out⟩, ⟨by repeat (first | (with_reducible first | exact HB.out | apply below_alloc | apply pw_below_drewN | apply below_drew1) | exact HB.out)⟩⟩
              · rw [if_neg c25] at H
                exact absurd H (by simp)
            · rw [if_neg c22] at H
              have c22b0 : (a0.toList == ([115, 104, 114, 95, 115] : List UInt8)) = false := beq_eq_false_iff_ne.mpr c22
              have c22b1 : (a0.toList != ([115, 104, 114, 95, 115] : List UInt8)) = true := bne_iff_ne.mpr c22
              by_cases c27 : a0.toList = ([114, 111, 116, 108] : List UInt8)
              · rw [if_pos c27] at H
                have c27b0 : (a0.toList == ([114, 111, 116, 108] : List UInt8)) = true := beq_iff_eq.mpr c27
                have c27b1 : (a0.toList != ([114, 111, 116, 108] : List UInt8)) = false := bne_eq_false_iff_eq.mpr c27
                clear c27
                by_cases c28 : a3 = 0
                · rw [if_pos c28] at H
                  exact absurd H (by simp)
                · rw [if_neg c28] at H
                  have c28b0 : (a3 == 0) = false := beq_eq_false_iff_ne.mpr c28
                  have c28b1 : (a3 != 0) = true := bne_iff_ne.mpr c28
                  replace H := Option.bind_eq_some_iff.mp H
                  obtain ⟨t284, A290, H⟩ := H
                  replace H : (if x9_1.length < 140737488355328 then (mandrelref02_moved.l0 k1 a0 a1 a2 a3 (x9_1 ++ [t284]) (wrap64 (x10_1 + 1))) else (none)) = some r := H
                  have A29 := Aside0.mk A290
                  clear A290
                  by_cases c30 : x9_1.length < 140737488355328
                  · rw [if_pos c30] at H
                    have LMc30 := Aside0.mk c30
                    clear c30
                    obtain ⟨y285, hy285⟩ : ∃ y_ : List Bool, y_ = (x9_1 ++ [t284]) := ⟨_, rfl⟩
                    replace H : (mandrelref02_moved.l0 k1 a0 a1 a2 a3 y285 (wrap64 (x10_1 + 1))) = some r := by first | (rw [hy285]; with_reducible exact H) | (have H2_ := (Option.bind_some _ _).symm.trans H; rw [hy285]; with_reducible exact H2_) | (have H2_ := (Option.bind_some _ _).symm.trans H; with_reducible exact H2_) | with_reducible exact H | (rw [hy285]; exact H) | exact H
                    have Ny285 := Aside0.mk hy285
                    clear hy285
                    have H' := Aside0.mk H
                    clear H
                    go_wp2_with (first | ((with_reducible refine gate_callee (f := 27) rfl ?_); refine goesL_ (some 89) rfl rfl Tryd.func27 (by kernel_rfl) rfl #[.int .u64 a1, .int .i64 (Int.tmod (wrap64 ((wrap64 (x10_1 + a3)) - a2)) a3)] rfl (by (try simp only [List.map_toArray, List.map_cons, List.map_nil]); first | done | rfl | (simp only [List.length_drop, List.length_take]; rfl)) ?_; (with_reducible refine (mandrelref02_bit.calls a1 (Int.tmod (wrap64 ((wrap64 (x10_1 + a3)) - a2)) a3) t284 _ A29.out).mono ?_); rintro e w' ⟨rfl, ⟨nd, rfl⟩⟩; refine ⟨_, rfl, ?_⟩) | ((with_reducible refine gate_builtin (b := .append) (xs := #[.tmp 80, .tmp 90]) rfl ?_); at_builtin; refine Kd.R_append Kd.bool (w0 := w) w.heap.size rfl (.tmp 80) (.tmp 90) 63 4 (.bool false) 1 rfl Tryd.underlying63 info4 rfl (by decide) (by omega) u9 x9_1 t284 [.bool t284] (fun _ => True) (fun _ => False) rfl rfl ?aP (fun _ hk => hk.elim) ?aF ?aO ?aB ?aS ?aL ?_; (case aP => exact rfl); (case aB => exact (by repeat (first | (with_reducible first | exact HB.out | apply below_alloc | apply pw_below_drewN | apply below_drew1) | exact HB.out))); (case aF => exact (fun _ _ => trivial)); (case aO => exact (by (with_reducible repeat (first | apply Kd.R_alloc | apply Kd.R_drewN | apply Kd.R_drew)); exact HO_9.out)); (case aS => exact (below_size (by repeat (first | (with_reducible first | exact HB.out | apply below_alloc | apply pw_below_drewN | apply below_drew1) | exact HB.out)))); (case aL => have := LMc30.out; omega); intro v286 w31 ho hb hg hat; rw [← Ny285.out] at ho; have n0_ := Aside0.mk (hb); have n1_ := Aside0.mk (ho); clear HB; clear HO_9; have HB := n0_; have HO287 := n1_; clear n0_ n1_; clear ho hb hg hat))
                    go_roundg k1
                    case measure => have := HK1.out; omega
                    case rel => exact ⟨(y285), (wrap64 (x10_1 + 1)), (by first | rfl | (simp; done) | (simp [*]; done)), H', ⟨by have := HK1.out; omega⟩, ⟨by (with_reducible repeat (first | apply Kd.R_alloc | apply Kd.R_drewN | apply Kd.R_drew)); exact HO287.out⟩, ⟨by repeat (first | (with_reducible first | exact HB.out | apply below_alloc | apply pw_below_drewN | apply below_drew1) | exact HB.out)⟩⟩
                  · rw [if_neg c30] at H
                    exact absurd H (by simp)
              · rw [if_neg c27] at H
                have c27b0 : (a0.toList == ([114, 111, 116, 108] : List UInt8)) = false := beq_eq_false_iff_ne.mpr c27
                have c27b1 : (a0.toList != ([114, 111, 116, 108] : List UInt8)) = true := bne_iff_ne.mpr c27
                by_cases c32 : a3 = 0
                · rw [if_pos c32] at H
                  exact absurd H (by simp)
                · rw [if_neg c32] at H
                  have c32b0 : (a3 == 0) = false := beq_eq_false_iff_ne.mpr c32
                  have c32b1 : (a3 != 0) = true := bne_iff_ne.mpr c32
                  replace H := Option.bind_eq_some_iff.mp H
                  obtain ⟨t288, A330, H⟩ := H
                  replace H : (if x9_1.length < 140737488355328 then (mandrelref02_moved.l0 k1 a0 a1 a2 a3 (x9_1 ++ [t288]) (wrap64 (x10_1 + 1))) else (none)) = some r := H
                  have A33 := Aside0.mk A330
                  clear A330
                  by_cases c34 : x9_1.length < 140737488355328
                  · rw [if_pos c34] at H
                    have LMc34 := Aside0.mk c34
                    clear c34
                    obtain ⟨y289, hy289⟩ : ∃ y_ : List Bool, y_ = (x9_1 ++ [t288]) := ⟨_, rfl⟩
                    replace H : (mandrelref02_moved.l0 k1 a0 a1 a2 a3 y289 (wrap64 (x10_1 + 1))) = some r := by first | (rw [hy289]; with_reducible exact H) | (have H2_ := (Option.bind_some _ _).symm.trans H; rw [hy289]; with_reducible exact H2_) | (have H2_ := (Option.bind_some _ _).symm.trans H; with_reducible exact H2_) | with_reducible exact H | (rw [hy289]; exact H) | exact H
                    have Ny289 := Aside0.mk hy289
                    clear hy289
                    have H' := Aside0.mk H
                    clear H
                    go_wp2_with (first | ((with_reducible refine gate_callee (f := 27) rfl ?_); refine goesL_ (some 24) rfl rfl Tryd.func27 (by kernel_rfl) rfl #[.int .u64 a1, .int .i64 (Int.tmod (wrap64 (x10_1 + a2)) a3)] rfl (by (try simp only [List.map_toArray, List.map_cons, List.map_nil]); first | done | rfl | (simp only [List.length_drop, List.length_take]; rfl)) ?_; (with_reducible refine (mandrelref02_bit.calls a1 (Int.tmod (wrap64 (x10_1 + a2)) a3) t288 _ A33.out).mono ?_); rintro e w' ⟨rfl, ⟨nd, rfl⟩⟩; refine ⟨_, rfl, ?_⟩) | ((with_reducible refine gate_builtin (b := .append) (xs := #[.tmp 17, .tmp 25]) rfl ?_); at_builtin; refine Kd.R_append Kd.bool (w0 := w) w.heap.size rfl (.tmp 17) (.tmp 25) 63 4 (.bool false) 1 rfl Tryd.underlying63 info4 rfl (by decide) (by omega) u9 x9_1 t288 [.bool t288] (fun _ => True) (fun _ => False) rfl rfl ?aP (fun _ hk => hk.elim) ?aF ?aO ?aB ?aS ?aL ?_; (case aP => exact rfl); (case aB => exact (by repeat (first | (with_reducible first | exact HB.out | apply below_alloc | apply pw_below_drewN | apply below_drew1) | exact HB.out))); (case aF => exact (fun _ _ => trivial)); (case aO => exact (by (with_reducible repeat (first | apply Kd.R_alloc | apply Kd.R_drewN | apply Kd.R_drew)); exact HO_9.out)); (case aS => exact (below_size (by repeat (first | (with_reducible first | exact HB.out | apply below_alloc | apply pw_below_drewN | apply below_drew1) | exact HB.out)))); (case aL => have := LMc34.out; omega); intro v290 w35 ho hb hg hat; rw [← Ny289.out] at ho; have n0_ := Aside0.mk (hb); have n1_ := Aside0.mk (ho); clear HB; clear HO_9; have HB := n0_; have HO291 := n1_; clear n0_ n1_; clear ho hb hg hat))
                    go_roundg k1
                    case measure => have := HK1.out; omega
                    case rel => exact ⟨(y289), (wrap64 (x10_1 + 1)), (by first | rfl | (simp; done) | (simp [*]; done)), H', ⟨by have := HK1.out; omega⟩, ⟨by (with_reducible repeat (first | apply Kd.R_alloc | apply Kd.R_drewN | apply Kd.R_drew)); exact HO291.out⟩, ⟨by repeat (first | (with_reducible first | exact HB.out | apply below_alloc | apply pw_below_drewN | apply below_drew1) | exact HB.out)⟩⟩
                  · rw [if_neg c34] at H
                    exact absurd H (by simp)
      · rw [if_neg c5] at H
        have c5b0 : decide (x10_1 < a3) = false := decide_eq_false c5
        clear c5
        replace H := Option.bind_eq_some_iff.mp H
        obtain ⟨t265, A360, H⟩ := H
        replace H : (some t265) = some r := H
        have A36 := Aside0.mk A360
        clear A360
        obtain rfl := Option.some.inj H
        obtain ⟨Ao37, co37, eo37⟩ := Kd.R_slice HO_9.out
        subst eo37
        go_wp2_with (first | ((with_reducible refine gate_callee (f := 30) rfl ?_); refine goesL_ (some 93) rfl rfl Tryd.func30 (by kernel_rfl) rfl #[.slice Ao37 x9_1.length co37] rfl (by (try simp only [List.map_toArray, List.map_cons, List.map_nil]); first | done | rfl | (simp only [List.length_drop, List.length_take]; rfl)) ?_; (with_reducible refine (mandrelref02_made.calls k1 _ _ x9_1 t265 _ ?side1 ?side2 A36.out).mono ?_); (case side1 => repeat (first | exact (Kd.R_reads' HO_9.out).2.2 | (with_reducible refine Kd.C_alloc ?_ _) | (with_reducible refine Kd.C_drewN ?_ _) | (with_reducible refine Kd.C_drew ?_))); (case side2 => exact (Kd.R_reads' HO_9.out).2.1); rintro e w' ⟨rfl, ⟨nd, rfl⟩⟩; refine ⟨_, rfl, ?_⟩))
        go_ret
        exact ⟨by first | rfl | (simp [errW_none, errW_some] <;> rfl) | (simp [*, errW_none, errW_some] <;> rfl), by repeat (first | (with_reducible first | exact HB.out | apply below_alloc | apply pw_below_drewN | apply below_drew1) | exact HB.out)⟩

end Go.Proofs.YtkpafgnchdohaaaDoor.XN
