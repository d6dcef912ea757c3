/- Functions of the Go program as Lean functions, and the proofs that the Go code answers as they do. Written by a program of this session. -/
import Derived.Test.YtljmikfpknmnnaaDoorXSx0
-- slim
namespace Go.Proofs.YtljmikfpknmnnaaDoor.XS
open Go.RowKit Go.Proofs.YtljmikfpknmnnaaDoorW.PrintWords Go.Proofs.YtljmikfpknmnnaaDoorW.PrintLast Go.Proofs.YtljmikfpknmnnaaDoorW.PrintMore
attribute [local go_sem] max2_int min2_int max_two min_two max_three min_three max_four min_four   -- for this text's walks alone
set_option linter.unusedVariables false
set_option linter.unusedSimpArgs false

/-! ### leb_check: function 28 -/
def leb_check.f (a0 : Int) : Option (Option Int) := if a0 < 1 then (some (some 1)) else (if a0 > 64 then (some (some 1)) else (some none))
set_option maxHeartbeats 8000000 in
set_option maxRecDepth 100000 in
theorem leb_check.calls (a0 : Int) (r : Option Int) (w : World) (h : leb_check.f a0 = some r) :
  Calls Tryd.prog 28 #[.int .i64 a0] w fun e w' => e = .returned (errW r) ∧ Drawn0 w w' := by
 have hu25 := Tryd.underlying25
 have hu66 := Tryd.underlying66
 have H : (if a0 < 1 then (some (some 1)) else (if a0 > 64 then (some (some 1)) else (some none))) = some r := h
 clear h
 by_cases c2 : a0 < 1
 ·rw [if_pos c2] at H
  have c2b0 : decide (a0 < 1) = true := decide_eq_true c2
  clear c2
  obtain rfl := Option.some.inj H
  go_enter Tryd.func28, Tryd.ntmps28
  go_wp2
  go_ret
  exact ⟨by first | rfl | (simp; done) | (simp [*]; done), by repeat (first | exact Drawn0.refl _ | apply Drawn0.step)⟩
 ·rw [if_neg c2] at H
  have c2b0 : decide (a0 < 1) = false := decide_eq_false c2
  clear c2
  by_cases c3 : a0 > 64
  ·rw [if_pos c3] at H
   have c3b0 : decide (64 < a0) = true := decide_eq_true c3
   clear c3
   obtain rfl := Option.some.inj H
   go_enter Tryd.func28, Tryd.ntmps28
   go_wp2
   go_ret
   exact ⟨by first | rfl | (simp; done) | (simp [*]; done), by repeat (first | exact Drawn0.refl _ | apply Drawn0.step)⟩
  ·rw [if_neg c3] at H
   have c3b0 : decide (64 < a0) = false := decide_eq_false c3
   clear c3
   obtain rfl := Option.some.inj H
   go_enter Tryd.func28, Tryd.ntmps28
   go_wp2
   go_ret
   exact ⟨by first | rfl | (simp; done) | (simp [*]; done), by repeat (first | exact Drawn0.refl _ | apply Drawn0.step)⟩

/-! ### leb_length: function 29 -/
def leb_length.l0 : Nat → List Int → Int → List Int → Int → Int → Option (Int × Option Int)
 | 0, _, _, _, _, _ => none
 | k + 1, x0, x6, x13, x14, x15 => if x15 < x14 then (if 0 ≤ x15 then (if x15 < (x13.length : Int) then (if x15 = x6 then (if (x0.length : Int) < x6 then (some (0, some 4)) else (some (0, some 6))) else (if (rd x13 x15) < 128 then (some (wrap64 (x15 + 1), none)) else (leb_length.l0 k x0 x6 x13 x14 (wrap64 (x15 + 1))))) else (none)) else (none)) else (if (x0.length : Int) < x6 then (some (0, some 4)) else (some (0, some 6)))
def leb_length.f (k : Nat) (l0 : List Int) (a1 : Int) : Option (Int × Option Int) := leb_length.l0 k l0 (wrap64 (Int.tdiv (wrap64 ((wrap64 (a1 + 7)) - 1)) 7)) l0 (l0.length : Int) 0
theorem leb_length.mono_l : ∀ k, (∀ y0 y1 y2 y3 y4, LeO (leb_length.l0 k y0 y1 y2 y3 y4) (leb_length.l0 (k + 1) y0 y1 y2 y3 y4))
 | 0 => fun _ _ _ _ _ r h => by simp [leb_length.l0] at h
 | k + 1 => by
  have ih0 := leb_length.mono_l k
  ·intro y0 y1 y2 y3 y4
   unfold leb_length.l0
   repeat' first
   | (with_reducible exact ih0 _ _ _ _ _)
   | (with_reducible exact LeO.refl _)
   | (with_reducible exact LeO.none _)
   | (with_reducible refine LeO.ite ?_ ?_)
   | (with_reducible refine LeO.bind ?_ (fun _ => ?_))
   | exact ih0 _ _ _ _ _
   | exact LeO.none _
   | refine LeO.ite ?_ ?_
   | refine LeO.bind ?_ (fun _ => ?_)
theorem leb_length.mono : ∀ a0 a1 k, LeO (leb_length.f k a0 a1) (leb_length.f (k + 1) a0 a1) := by
 intro a0 a1 k
 have ih0 := leb_length.mono_l k
 unfold leb_length.f
 repeat' first
   | (with_reducible exact ih0 _ _ _ _ _)
   | (with_reducible exact LeO.refl _)
   | (with_reducible exact LeO.none _)
   | (with_reducible refine LeO.ite ?_ ?_)
   | (with_reducible refine LeO.bind ?_ (fun _ => ?_))
   | exact ih0 _ _ _ _ _
   | exact LeO.none _
   | refine LeO.ite ?_ ?_
   | refine LeO.bind ?_ (fun _ => ?_)
set_option maxHeartbeats 8000000 in
set_option maxRecDepth 100000 in
theorem leb_length.calls (k : Nat) (A0 : Option Addr) (c0 : Nat) (l0 : List Int) (a1 : Int) (r1 : Int) (r2 : Option Int) (w : World) (hr0 : Kd.C (Kd.int .u8) w A0 l0.length l0) (hc0 : l0.length ≤ c0) (h : leb_length.f k l0 a1 = some (r1, r2)) :
  Calls Tryd.prog 29 #[.slice A0 l0.length c0, .int .i64 a1] w fun e w' => e = .returned (.tuple #[.int .i64 r1, errW r2]) ∧ Drawn0 w w' := by
 have hu25 := Tryd.underlying25
 have hu66 := Tryd.underlying66
 have HR0 := Aside0.mk hr0
 have HC0 := Aside0.mk hc0
 clear hr0 hc0
 have H : (leb_length.l0 k l0 (wrap64 (Int.tdiv (wrap64 ((wrap64 (a1 + 7)) - 1)) 7)) l0 (l0.length : Int) 0) = some (r1, r2) := h
 clear h
 have H' := Aside0.mk H
 clear H
 go_enter Tryd.func29, Tryd.ntmps29
 go_wp2
 go_loopg [15] k (fun kq v15 w' => ∃ (x15_1 : Int), v15 = .int .i64 x15_1 ∧ Aside0 (leb_length.l0 kq l0 (wrap64 (Int.tdiv (wrap64 ((wrap64 (a1 + 7)) - 1)) 7)) l0 (l0.length : Int) x15_1 = some (r1, r2)) ∧ Aside0 (kq ≤ k) ∧ Drawn0 w w')
 case atStart => exact ⟨(0), (by first | rfl | (simp; done) | (simp [*]; done)), H', ⟨Nat.le_refl _⟩, by repeat (first | exact Drawn0.refl _ | apply Drawn0.step)⟩
 case round =>
  clear H'
  (try clear c2); (try clear p2)
  obtain ⟨x15_1, rfl, HA, HK1, ⟨m1, rfl⟩⟩ := hrel
  cases gk with
  | zero => exact absurd HA.out (by simp [leb_length.l0])
  | succ k1 =>
   have H := HA.out
   clear HA
   simp only [leb_length.l0] at H
   by_cases c3 : x15_1 < (l0.length : Int)
   ·rw [if_pos c3] at H
    have c3b0 : decide (x15_1 < (l0.length : Int)) = true := decide_eq_true c3
    clear c3
    by_cases c4 : 0 ≤ x15_1
    ·rw [if_pos c4] at H
     have c4b0 : decide (0 ≤ x15_1) = true := decide_eq_true c4
     clear c4
     by_cases c5 : x15_1 < (l0.length : Int)
     ·rw [if_pos c5] at H
      have c5b0 : decide (x15_1 < (l0.length : Int)) = true := decide_eq_true c5
      clear c5
      by_cases c6 : x15_1 = (wrap64 (Int.tdiv (wrap64 ((wrap64 (a1 + 7)) - 1)) 7))
      ·rw [if_pos c6] at H
       have c6b0 : (x15_1 == (wrap64 (Int.tdiv (wrap64 ((wrap64 (a1 + 7)) - 1)) 7))) = true := beq_iff_eq.mpr c6
       have c6b1 : (x15_1 != (wrap64 (Int.tdiv (wrap64 ((wrap64 (a1 + 7)) - 1)) 7))) = false := bne_eq_false_iff_eq.mpr c6
       clear c6
       by_cases c7 : (l0.length : Int) < (wrap64 (Int.tdiv (wrap64 ((wrap64 (a1 + 7)) - 1)) 7))
       ·rw [if_pos c7] at H
        have c7b0 : decide ((l0.length : Int) < (wrap64 (Int.tdiv (wrap64 ((wrap64 (a1 + 7)) - 1)) 7))) = true := decide_eq_true c7
        clear c7
        simp only [Option.some.injEq, Prod.mk.injEq] at H
        obtain ⟨rfl, rfl⟩ := H
        have p101 : 0 ≤ (x15_1 : Int) := of_decide_eq_true (by first | (with_reducible assumption) | assumption)
        have q101 : x15_1 < (l0.length : Int) := of_decide_eq_true (by first | (with_reducible assumption) | assumption)
        obtain ⟨ad101, e101, hx101_0⟩ := Kd.at_int HR0.out x15_1 p101 q101
        cases e101
        replace p101 := eq_true p101
        replace q101 := eq_true q101
        go_wp2
        go_ret2
        exact ⟨by first | rfl | (simp; done) | (simp [*]; done), by repeat (first | exact Drawn0.refl _ | apply Drawn0.step)⟩
       ·rw [if_neg c7] at H
        have c7b0 : decide ((l0.length : Int) < (wrap64 (Int.tdiv (wrap64 ((wrap64 (a1 + 7)) - 1)) 7))) = false := decide_eq_false c7
        clear c7
        simp only [Option.some.injEq, Prod.mk.injEq] at H
        obtain ⟨rfl, rfl⟩ := H
        have p101 : 0 ≤ (x15_1 : Int) := of_decide_eq_true (by first | (with_reducible assumption) | assumption)
        have q101 : x15_1 < (l0.length : Int) := of_decide_eq_true (by first | (with_reducible assumption) | assumption)
        obtain ⟨ad101, e101, hx101_0⟩ := Kd.at_int HR0.out x15_1 p101 q101
        cases e101
        replace p101 := eq_true p101
        replace q101 := eq_true q101
        go_wp2
        go_ret2
        exact ⟨by first | rfl | (simp; done) | (simp [*]; done), by repeat (first | exact Drawn0.refl _ | apply Drawn0.step)⟩
      ·rw [if_neg c6] at H
       have c6b0 : (x15_1 == (wrap64 (Int.tdiv (wrap64 ((wrap64 (a1 + 7)) - 1)) 7))) = false := beq_eq_false_iff_ne.mpr c6
       have c6b1 : (x15_1 != (wrap64 (Int.tdiv (wrap64 ((wrap64 (a1 + 7)) - 1)) 7))) = true := bne_iff_ne.mpr c6
       by_cases c8 : (rd l0 x15_1) < 128
       ·rw [if_pos c8] at H
        have c8b0 : decide ((rd l0 x15_1) < 128) = true := decide_eq_true c8
        clear c8
        simp only [Option.some.injEq, Prod.mk.injEq] at H
        obtain ⟨rfl, rfl⟩ := H
        have p101 : 0 ≤ (x15_1 : Int) := of_decide_eq_true (by first | (with_reducible assumption) | assumption)
        have q101 : x15_1 < (l0.length : Int) := of_decide_eq_true (by first | (with_reducible assumption) | assumption)
        obtain ⟨ad101, e101, hx101_0⟩ := Kd.at_int HR0.out x15_1 p101 q101
        cases e101
        replace p101 := eq_true p101
        replace q101 := eq_true q101
        go_wp2
        go_ret2
        exact ⟨by first | rfl | (simp; done) | (simp [*]; done), by repeat (first | exact Drawn0.refl _ | apply Drawn0.step)⟩
       ·rw [if_neg c8] at H
        have c8b0 : decide ((rd l0 x15_1) < 128) = false := decide_eq_false c8
        clear c8
        have H' := Aside0.mk H
        clear H
        have p101 : 0 ≤ (x15_1 : Int) := of_decide_eq_true (by first | (with_reducible assumption) | assumption)
        have q101 : x15_1 < (l0.length : Int) := of_decide_eq_true (by first | (with_reducible assumption) | assumption)
        obtain ⟨ad101, e101, hx101_0⟩ := Kd.at_int HR0.out x15_1 p101 q101
        cases e101
        replace p101 := eq_true p101
        replace q101 := eq_true q101
        go_wp2
        go_roundg k1
        case measure => have := HK1.out; omega
        case rel => exact ⟨(wrap64 (x15_1 + 1)), (by first | rfl | (simp; done) | (simp [*]; done)), H', ⟨by have := HK1.out; omega⟩, by repeat (first | exact Drawn0.refl _ | apply Drawn0.step)⟩
     ·rw [if_neg c5] at H
      exact absurd H (by simp)
    ·rw [if_neg c4] at H
     exact absurd H (by simp)
   ·rw [if_neg c3] at H
    have c3b0 : decide (x15_1 < (l0.length : Int)) = false := decide_eq_false c3
    clear c3
    by_cases c9 : (l0.length : Int) < (wrap64 (Int.tdiv (wrap64 ((wrap64 (a1 + 7)) - 1)) 7))
    ·rw [if_pos c9] at H
     have c9b0 : decide ((l0.length : Int) < (wrap64 (Int.tdiv (wrap64 ((wrap64 (a1 + 7)) - 1)) 7))) = true := decide_eq_true c9
     clear c9
     simp only [Option.some.injEq, Prod.mk.injEq] at H
     obtain ⟨rfl, rfl⟩ := H
     go_wp2
     go_ret2
     exact ⟨by first | rfl | (simp; done) | (simp [*]; done), by repeat (first | exact Drawn0.refl _ | apply Drawn0.step)⟩
    ·rw [if_neg c9] at H
     have c9b0 : decide ((l0.length : Int) < (wrap64 (Int.tdiv (wrap64 ((wrap64 (a1 + 7)) - 1)) 7))) = false := decide_eq_false c9
     clear c9
     simp only [Option.some.injEq, Prod.mk.injEq] at H
     obtain ⟨rfl, rfl⟩ := H
     go_wp2
     go_ret2
     exact ⟨by first | rfl | (simp; done) | (simp [*]; done), by repeat (first | exact Drawn0.refl _ | apply Drawn0.step)⟩

/-! ### leb_TakeU: function 10 -/
def leb_TakeU.l0 : Nat → List Int → Int → Int → Int → Int → Option (Int × Int × Option Int)
 | 0, _, _, _, _, _ => none
 | k + 1, x0, x1, x8, x10, x11 => if x11 ≥ 0 then (if 0 ≤ x11 then (if x11 < (x0.length : Int) then (leb_TakeU.l0 k x0 x1 x8 (Go.bits .or .u64 (IntKind.u64.wrap (x10 * 128)) (IntKind.u64.wrap (Go.bits .andNot .u8 (rd x0 x11) 128))) (wrap64 (x11 - 1))) else (none)) else (none)) else (if (wrap64 (x1 - (wrap64 (7 * (wrap64 (x8 - 1)))))) < 7 then (if 0 ≤ (wrap64 (x8 - 1)) then (if (wrap64 (x8 - 1)) < (x0.length : Int) then (if 0 ≤ (wrap64 (x1 - (wrap64 (7 * (wrap64 (x8 - 1)))))) then (if (shr .u8 (rd x0 (wrap64 (x8 - 1))) (wrap64 (x1 - (wrap64 (7 * (wrap64 (x8 - 1))))))) = 0 then (some (x10, x8, none)) else (some (0, 0, some 6))) else (none)) else (none)) else (none)) else (some (x10, x8, none)))
def leb_TakeU.f (k : Nat) (l0 : List Int) (a1 : Int) : Option (Int × Int × Option Int) := (leb_check.f a1).bind fun t102 => (if t102.isNone = true then ((leb_length.f k l0 a1).bind fun bt104 => (if bt104.2.isNone = true then (leb_TakeU.l0 k l0 a1 bt104.1 0 (wrap64 (bt104.1 - 1))) else (some (0, 0, some (bt104.2.getD 0))))) else (some (0, 0, some (t102.getD 0))))
theorem leb_TakeU.mono_l : ∀ k, (∀ y0 y1 y2 y3 y4, LeO (leb_TakeU.l0 k y0 y1 y2 y3 y4) (leb_TakeU.l0 (k + 1) y0 y1 y2 y3 y4))
 | 0 => fun _ _ _ _ _ r h => by simp [leb_TakeU.l0] at h
 | k + 1 => by
  have ih0 := leb_TakeU.mono_l k
  ·intro y0 y1 y2 y3 y4
   unfold leb_TakeU.l0
   repeat' first
   | (with_reducible exact ih0 _ _ _ _ _)
   | (with_reducible exact leb_length.mono _ _ _)
   | (with_reducible exact LeO.refl _)
   | (with_reducible exact LeO.none _)
   | (with_reducible refine LeO.ite ?_ ?_)
   | (with_reducible refine LeO.bind ?_ (fun _ => ?_))
   | exact ih0 _ _ _ _ _
   | exact leb_length.mono _ _ _
   | exact LeO.none _
   | refine LeO.ite ?_ ?_
   | refine LeO.bind ?_ (fun _ => ?_)
theorem leb_TakeU.mono : ∀ a0 a1 k, LeO (leb_TakeU.f k a0 a1) (leb_TakeU.f (k + 1) a0 a1) := by
 intro a0 a1 k
 have ih0 := leb_TakeU.mono_l k
 unfold leb_TakeU.f
 repeat' first
   | (with_reducible exact ih0 _ _ _ _ _)
   | (with_reducible exact leb_length.mono _ _ _)
   | (with_reducible exact LeO.refl _)
   | (with_reducible exact LeO.none _)
   | (with_reducible refine LeO.ite ?_ ?_)
   | (with_reducible refine LeO.bind ?_ (fun _ => ?_))
   | exact ih0 _ _ _ _ _
   | exact leb_length.mono _ _ _
   | exact LeO.none _
   | refine LeO.ite ?_ ?_
   | refine LeO.bind ?_ (fun _ => ?_)
set_option maxHeartbeats 8000000 in
set_option maxRecDepth 100000 in
theorem leb_TakeU.calls (k : Nat) (A0 : Option Addr) (c0 : Nat) (l0 : List Int) (a1 : Int) (r1 : Int) (r2 : Int) (r3 : Option Int) (w : World) (hr0 : Kd.C (Kd.int .u8) w A0 l0.length l0) (hc0 : l0.length ≤ c0) (h : leb_TakeU.f k l0 a1 = some (r1, r2, r3)) :
  Calls Tryd.prog 10 #[.slice A0 l0.length c0, .int .i64 a1] w fun e w' => e = .returned (.tuple #[.int .u64 r1, .int .i64 r2, errW r3]) ∧ Drawn0 w w' := by
 have hu25 := Tryd.underlying25
 have hu66 := Tryd.underlying66
 have HR0 := Aside0.mk hr0
 have HC0 := Aside0.mk hc0
 clear hr0 hc0
 have H : ((leb_check.f a1).bind fun t102 => (if t102.isNone = true then ((leb_length.f k l0 a1).bind fun bt104 => (if bt104.2.isNone = true then (leb_TakeU.l0 k l0 a1 bt104.1 0 (wrap64 (bt104.1 - 1))) else (some (0, 0, some (bt104.2.getD 0))))) else (some (0, 0, some (t102.getD 0))))) = some (r1, r2, r3) := h
 clear h
 replace H := Option.bind_eq_some_iff.mp H
 obtain ⟨t102, A30, H⟩ := H
 replace H : (if t102.isNone = true then ((leb_length.f k l0 a1).bind fun bt104 => (if bt104.2.isNone = true then (leb_TakeU.l0 k l0 a1 bt104.1 0 (wrap64 (bt104.1 - 1))) else (some (0, 0, some (bt104.2.getD 0))))) else (some (0, 0, some (t102.getD 0)))) = some (r1, r2, r3) := H
 have A3 := Aside0.mk A30
 clear A30
 rcases t102 with _ | q103
 ·have H1 : ((leb_length.f k l0 a1).bind fun bt104 => (if bt104.2.isNone = true then (leb_TakeU.l0 k l0 a1 bt104.1 0 (wrap64 (bt104.1 - 1))) else (some (0, 0, some (bt104.2.getD 0))))) = some (r1, r2, r3) := by rw [if_pos (show (none : Option Int).isNone = true by rfl)] at H; exact H
  clear H
  have H := H1
  clear H1
  try simp only [errW_none, errW_some]
  replace H := Option.bind_eq_some_iff.mp H
  obtain ⟨⟨t104, t105⟩, A40, H⟩ := H
  replace H : (if t105.isNone = true then (leb_TakeU.l0 k l0 a1 t104 0 (wrap64 (t104 - 1))) else (some (0, 0, some (t105.getD 0)))) = some (r1, r2, r3) := H
  have A4 := Aside0.mk A40
  clear A40
  rcases t105 with _ | q106
  ·have H1 : (leb_TakeU.l0 k l0 a1 t104 0 (wrap64 (t104 - 1))) = some (r1, r2, r3) := by rw [if_pos (show (none : Option Int).isNone = true by rfl)] at H; exact H
   clear H
   have H := H1
   clear H1
   try simp only [errW_none, errW_some]
   have H' := Aside0.mk H
   clear H
   go_enter Tryd.func10, Tryd.ntmps10
   go_wp2_with (first | ((with_reducible refine gate_callee (f := 28) rfl ?_); refine goesL_ _ rfl rfl Tryd.func28 (by kernel_rfl) rfl #[.int .i64 a1] rfl (by (try simp only [List.map_toArray, List.map_cons, List.map_nil]); first | done | rfl | (simp only [List.length_drop, List.length_take]; rfl)) ?_; (with_reducible refine (leb_check.calls a1 none _ A3.out).mono ?_); rintro e w' ⟨rfl, ⟨nd, rfl⟩⟩; refine ⟨_, rfl, ?_⟩; (try simp only [errW_none, errW_some])) | ((with_reducible refine gate_callee (f := 29) rfl ?_); refine goesL_ _ rfl rfl Tryd.func29 (by kernel_rfl) rfl #[.slice A0 l0.length c0, .int .i64 a1] rfl (by (try simp only [List.map_toArray, List.map_cons, List.map_nil]); first | done | rfl | (simp only [List.length_drop, List.length_take]; rfl)) ?_; (with_reducible refine (leb_length.calls k _ _ l0 a1 t104 none _ ?side1 ?side2 A4.out).mono ?_); (case side1 => repeat (first | exact HR0.out | (with_reducible refine Kd.C_alloc ?_ _) | (with_reducible refine Kd.C_drewN ?_ _) | (with_reducible refine Kd.C_drew ?_))); (case side2 => exact HC0.out); rintro e w' ⟨rfl, ⟨nd, rfl⟩⟩; refine ⟨_, rfl, ?_⟩; (try simp only [errW_none, errW_some])))
   go_loopg [10, 11] k (fun kq v10 v11 w' => ∃ (x10_1 : Int) (x11_1 : Int), v10 = .int .u64 x10_1 ∧ v11 = .int .i64 x11_1 ∧ Aside0 (leb_TakeU.l0 kq l0 a1 t104 x10_1 x11_1 = some (r1, r2, r3)) ∧ Aside0 (kq ≤ k) ∧ Drawn0 w w')
   case atStart => exact ⟨(0), (wrap64 (t104 - 1)), (by first | rfl | (simp; done) | (simp [*]; done)), (by first | rfl | (simp; done) | (simp [*]; done)), H', ⟨Nat.le_refl _⟩, by repeat (first | exact Drawn0.refl _ | apply Drawn0.step)⟩
   case round =>
    clear H'
    (try clear c1); (try clear q1); (try clear c2); (try clear p2); (try clear q103); (try clear q106)
    obtain ⟨x10_1, x11_1, rfl, rfl, HA, HK1, ⟨m1, rfl⟩⟩ := hrel
    cases gk with
    | zero => exact absurd HA.out (by simp [leb_TakeU.l0])
    | succ k1 =>
     have H := HA.out
     clear HA
     simp only [leb_TakeU.l0] at H
     by_cases c5 : x11_1 ≥ 0
     ·rw [if_pos c5] at H
      have c5b0 : decide (0 ≤ x11_1) = true := decide_eq_true c5
      clear c5
      by_cases c6 : 0 ≤ x11_1
      ·rw [if_pos c6] at H
       have c6b0 : decide (0 ≤ x11_1) = true := decide_eq_true c6
       clear c6
       by_cases c7 : x11_1 < (l0.length : Int)
       ·rw [if_pos c7] at H
        have c7b0 : decide (x11_1 < (l0.length : Int)) = true := decide_eq_true c7
        clear c7
        have H' := Aside0.mk H
        clear H
        have p107 : 0 ≤ (x11_1 : Int) := of_decide_eq_true (by first | (with_reducible assumption) | assumption)
        have q107 : x11_1 < (l0.length : Int) := of_decide_eq_true (by first | (with_reducible assumption) | assumption)
        obtain ⟨ad107, e107, hx107_0⟩ := Kd.at_int HR0.out x11_1 p107 q107
        cases e107
        replace p107 := eq_true p107
        replace q107 := eq_true q107
        go_wp2
        go_roundg k1
        case measure => have := HK1.out; omega
        case rel => exact ⟨(Go.bits .or .u64 (IntKind.u64.wrap (x10_1 * 128)) (IntKind.u64.wrap (Go.bits .andNot .u8 (rd l0 x11_1) 128))), (wrap64 (x11_1 - 1)), (by first | rfl | (simp; done) | (simp [*]; done)), (by first | rfl | (simp; done) | (simp [*]; done)), H', ⟨by have := HK1.out; omega⟩, by repeat (first | exact Drawn0.refl _ | apply Drawn0.step)⟩
       ·rw [if_neg c7] at H
        exact absurd H (by simp)
      ·rw [if_neg c6] at H
       exact absurd H (by simp)
     ·rw [if_neg c5] at H
      have c5b0 : decide (0 ≤ x11_1) = false := decide_eq_false c5
      clear c5
      by_cases c8 : (wrap64 (a1 - (wrap64 (7 * (wrap64 (t104 - 1)))))) < 7
      ·rw [if_pos c8] at H
       have c8b0 : decide ((wrap64 (a1 - (wrap64 (7 * (wrap64 (t104 - 1)))))) < 7) = true := decide_eq_true c8
       clear c8
       obtain ⟨ji9, hji9⟩ : ∃ j_ : Int, (wrap64 (t104 - 1)) = j_ := ⟨_, rfl⟩
       replace H : (if 0 ≤ (ji9) then (if (ji9) < (l0.length : Int) then (if 0 ≤ (wrap64 (a1 - (wrap64 (7 * (ji9))))) then (if (shr .u8 (rd l0 (ji9)) (wrap64 (a1 - (wrap64 (7 * (ji9)))))) = 0 then (some (x10_1, t104, none)) else (some (0, 0, some 6))) else (none)) else (none)) else (none)) = some (r1, r2, r3) := by first | (rw [hji9] at H; exact H) | (simp only [hji9] at H ⊢; exact H)
       (try rw [hji9] at c8b0)
       have hji9w : (IntKind.i64.wrap (t104 - 1)) = ji9 := (i64_w _).trans hji9
       by_cases c10 : 0 ≤ (ji9)
       ·rw [if_pos c10] at H
        have c10b0 : decide (0 ≤ (ji9)) = true := decide_eq_true c10
        clear c10
        by_cases c11 : (ji9) < (l0.length : Int)
        ·rw [if_pos c11] at H
         have c11b0 : decide ((ji9) < (l0.length : Int)) = true := decide_eq_true c11
         clear c11
         obtain ⟨ji12, hji12⟩ : ∃ j_ : Int, (wrap64 (a1 - (wrap64 (7 * (ji9))))) = j_ := ⟨_, rfl⟩
         replace H : (if 0 ≤ (ji12) then (if (shr .u8 (rd l0 (ji9)) (ji12)) = 0 then (some (x10_1, t104, none)) else (some (0, 0, some 6))) else (none)) = some (r1, r2, r3) := by first | (rw [hji12] at H; exact H) | (simp only [hji12] at H ⊢; exact H)
         (try rw [hji12] at c8b0)
         have hji12w : (IntKind.i64.wrap (a1 - (wrap64 (7 * (ji9))))) = ji12 := (i64_w _).trans hji12
         by_cases c13 : 0 ≤ (ji12)
         ·rw [if_pos c13] at H
          have c13b0 := eq_true c13
          have c13b1 : decide (0 ≤ (ji12)) = true := decide_eq_true c13
          clear c13
          obtain ⟨ji14, hji14⟩ : ∃ j_ : Int, (shr .u8 (rd l0 (ji9)) (ji12)) = j_ := ⟨_, rfl⟩
          replace H : (if (ji14) = 0 then (some (x10_1, t104, none)) else (some (0, 0, some 6))) = some (r1, r2, r3) := by first | (rw [hji14] at H; exact H) | (simp only [hji14] at H ⊢; exact H)
          have hji14_ : ((rd l0 (ji9)) / 2 ^ min (ji12).toNat 8) = ji14 := hji14
          have hji14z : (ji12) ≤ 8 → ((rd l0 (ji9)) / 2 ^ (ji12).toNat) = ji14 := shr_small hji14
          by_cases c15 : (ji14) = 0
          ·rw [if_pos c15] at H
           have c15b0 : ((ji14) == 0) = true := beq_iff_eq.mpr c15
           have c15b1 : ((ji14) != 0) = false := bne_eq_false_iff_eq.mpr c15
           clear c15
           simp only [Option.some.injEq, Prod.mk.injEq] at H
           obtain ⟨rfl, rfl, rfl⟩ := H
           have p108 : 0 ≤ ((ji9) : Int) := of_decide_eq_true (by first | (with_reducible assumption) | assumption)
           have q108 : (ji9) < (l0.length : Int) := of_decide_eq_true (by first | (with_reducible assumption) | assumption)
           obtain ⟨ad108, e108, hx108_0⟩ := Kd.at_int HR0.out (ji9) p108 q108
           cases e108
           replace p108 := eq_true p108
           replace q108 := eq_true q108
           go_wp2
           go_ret3
           exact ⟨by first | rfl | (simp; done) | (simp only [← hji9, ← hji12, ← hji14] <;> (first | rfl | simp)) | (simp [*]; done), by repeat (first | exact Drawn0.refl _ | apply Drawn0.step)⟩
          ·rw [if_neg c15] at H
           have c15b0 : ((ji14) == 0) = false := beq_eq_false_iff_ne.mpr c15
           have c15b1 : ((ji14) != 0) = true := bne_iff_ne.mpr c15
           simp only [Option.some.injEq, Prod.mk.injEq] at H
           obtain ⟨rfl, rfl, rfl⟩ := H
           have p108 : 0 ≤ ((ji9) : Int) := of_decide_eq_true (by first | (with_reducible assumption) | assumption)
           have q108 : (ji9) < (l0.length : Int) := of_decide_eq_true (by first | (with_reducible assumption) | assumption)
           obtain ⟨ad108, e108, hx108_0⟩ := Kd.at_int HR0.out (ji9) p108 q108
           cases e108
           replace p108 := eq_true p108
           replace q108 := eq_true q108
           go_wp2
           go_ret3
           exact ⟨by first | rfl | (simp; done) | (simp only [← hji9, ← hji12, ← hji14] <;> (first | rfl | simp)) | (simp [*]; done), by repeat (first | exact Drawn0.refl _ | apply Drawn0.step)⟩
         ·rw [if_neg c13] at H
          exact absurd H (by simp)
        ·rw [if_neg c11] at H
         exact absurd H (by simp)
       ·rw [if_neg c10] at H
        exact absurd H (by simp)
      ·rw [if_neg c8] at H
       have c8b0 : decide ((wrap64 (a1 - (wrap64 (7 * (wrap64 (t104 - 1)))))) < 7) = false := decide_eq_false c8
       clear c8
       simp only [Option.some.injEq, Prod.mk.injEq] at H
       obtain ⟨rfl, rfl, rfl⟩ := H
       go_wp2
       go_ret3
       exact ⟨by first | rfl | (simp; done) | (simp [*]; done), by repeat (first | exact Drawn0.refl _ | apply Drawn0.step)⟩
  ·have H1 : (some (0, 0, some q106)) = some (r1, r2, r3) := by rw [if_neg (show ¬ (some q106).isNone = true by simp)] at H; exact H
   clear H
   have H := H1
   clear H1
   try simp only [errW_none, errW_some]
   simp only [Option.some.injEq, Prod.mk.injEq] at H
   obtain ⟨rfl, rfl, rfl⟩ := H
   go_enter Tryd.func10, Tryd.ntmps10
   go_wp2_with (first | ((with_reducible refine gate_callee (f := 28) rfl ?_); refine goesL_ _ rfl rfl Tryd.func28 (by kernel_rfl) rfl #[.int .i64 a1] rfl (by (try simp only [List.map_toArray, List.map_cons, List.map_nil]); first | done | rfl | (simp only [List.length_drop, List.length_take]; rfl)) ?_; (with_reducible refine (leb_check.calls a1 none _ A3.out).mono ?_); rintro e w' ⟨rfl, ⟨nd, rfl⟩⟩; refine ⟨_, rfl, ?_⟩; (try simp only [errW_none, errW_some])) | ((with_reducible refine gate_callee (f := 29) rfl ?_); refine goesL_ _ rfl rfl Tryd.func29 (by kernel_rfl) rfl #[.slice A0 l0.length c0, .int .i64 a1] rfl (by (try simp only [List.map_toArray, List.map_cons, List.map_nil]); first | done | rfl | (simp only [List.length_drop, List.length_take]; rfl)) ?_; (with_reducible refine (leb_length.calls k _ _ l0 a1 t104 (some q106) _ ?side1 ?side2 A4.out).mono ?_); (case side1 => repeat (first | exact HR0.out | (with_reducible refine Kd.C_alloc ?_ _) | (with_reducible refine Kd.C_drewN ?_ _) | (with_reducible refine Kd.C_drew ?_))); (case side2 => exact HC0.out); rintro e w' ⟨rfl, ⟨nd, rfl⟩⟩; refine ⟨_, rfl, ?_⟩; (try simp only [errW_none, errW_some])))
   go_ret3
   exact ⟨by first | rfl | (simp; done) | (simp [*]; done), by repeat (first | exact Drawn0.refl _ | apply Drawn0.step)⟩
 ·have H1 : (some (0, 0, some q103)) = some (r1, r2, r3) := by rw [if_neg (show ¬ (some q103).isNone = true by simp)] at H; exact H
  clear H
  have H := H1
  clear H1
  try simp only [errW_none, errW_some]
  simp only [Option.some.injEq, Prod.mk.injEq] at H
  obtain ⟨rfl, rfl, rfl⟩ := H
  go_enter Tryd.func10, Tryd.ntmps10
  go_wp2_with (first | ((with_reducible refine gate_callee (f := 28) rfl ?_); refine goesL_ _ rfl rfl Tryd.func28 (by kernel_rfl) rfl #[.int .i64 a1] rfl (by (try simp only [List.map_toArray, List.map_cons, List.map_nil]); first | done | rfl | (simp only [List.length_drop, List.length_take]; rfl)) ?_; (with_reducible refine (leb_check.calls a1 (some q103) _ A3.out).mono ?_); rintro e w' ⟨rfl, ⟨nd, rfl⟩⟩; refine ⟨_, rfl, ?_⟩; (try simp only [errW_none, errW_some])))
  go_ret3
  exact ⟨by first | rfl | (simp; done) | (simp [*]; done), by repeat (first | exact Drawn0.refl _ | apply Drawn0.step)⟩

/-! ### leb_TakeS: function 11 -/
mutual
def leb_TakeS.j0 : Nat → List Int → Int → Int → Int → Option (Int × Int × Option Int)
 | 0, _, _, _, _ => none
 | k + 1, x0, x1, x8, x10 => leb_TakeS.l0 k x0 x1 x8 x10 (wrap64 (x8 - 1))
def leb_TakeS.l0 : Nat → List Int → Int → Int → Int → Int → Option (Int × Int × Option Int)
 | 0, _, _, _, _, _ => none
 | k + 1, x0, x1, x8, x10, x11 => if x11 ≥ 0 then (if 0 ≤ x11 then (if x11 < (x0.length : Int) then (leb_TakeS.l0 k x0 x1 x8 (Go.bits .or .i64 (wrap64 (x10 * 128)) (wrap64 (Go.bits .andNot .u8 (rd x0 x11) 128))) (wrap64 (x11 - 1))) else (none)) else (none)) else (if (wrap64 (x1 - (wrap64 (7 * (wrap64 (x8 - 1)))))) < 7 then (if 0 ≤ (wrap64 (x8 - 1)) then (if (wrap64 (x8 - 1)) < (x0.length : Int) then (if 0 ≤ (wrap64 ((wrap64 (x1 - (wrap64 (7 * (wrap64 (x8 - 1)))))) - 1)) then (if (shr .i8 ((IntKind.i8.wrap (((rd x0 (wrap64 (x8 - 1))) * 2) % 256)) / 2) (wrap64 ((wrap64 (x1 - (wrap64 (7 * (wrap64 (x8 - 1)))))) - 1))) = 0 then (some (x10, x8, none)) else (if (shr .i8 ((IntKind.i8.wrap (((rd x0 (wrap64 (x8 - 1))) * 2) % 256)) / 2) (wrap64 ((wrap64 (x1 - (wrap64 (7 * (wrap64 (x8 - 1)))))) - 1))) = (-1) then (some (x10, x8, none)) else (some (0, 0, some 6)))) else (none)) else (none)) else (none)) else (some (x10, x8, none)))
end
def leb_TakeS.f (k : Nat) (l0 : List Int) (a1 : Int) : Option (Int × Int × Option Int) := (leb_check.f a1).bind fun t109 => (if t109.isNone = true then ((leb_length.f k l0 a1).bind fun bt111 => (if bt111.2.isNone = true then (if 0 ≤ (wrap64 (bt111.1 - 1)) then (if (wrap64 (bt111.1 - 1)) < (l0.length : Int) then (if (Go.bits .and .u8 (rd l0 (wrap64 (bt111.1 - 1))) 64) = 0 then (leb_TakeS.j0 k l0 a1 bt111.1 0) else (leb_TakeS.j0 k l0 a1 bt111.1 (-1))) else (none)) else (none)) else (some (0, 0, some (bt111.2.getD 0))))) else (some (0, 0, some (t109.getD 0))))
theorem leb_TakeS.mono_l : ∀ k, (∀ y0 y1 y2 y3, LeO (leb_TakeS.j0 k y0 y1 y2 y3) (leb_TakeS.j0 (k + 1) y0 y1 y2 y3)) ∧ (∀ y0 y1 y2 y3 y4, LeO (leb_TakeS.l0 k y0 y1 y2 y3 y4) (leb_TakeS.l0 (k + 1) y0 y1 y2 y3 y4))
 | 0 => ⟨fun _ _ _ _ r h => by simp [leb_TakeS.j0] at h, fun _ _ _ _ _ r h => by simp [leb_TakeS.l0] at h⟩
 | k + 1 => by
  obtain ⟨ih0, ih1⟩ := leb_TakeS.mono_l k
  refine ⟨?_, ?_⟩
  ·intro y0 y1 y2 y3
   unfold leb_TakeS.j0
   repeat' first
   | (with_reducible exact ih0 _ _ _ _)
   | (with_reducible exact ih1 _ _ _ _ _)
   | (with_reducible exact leb_length.mono _ _ _)
   | (with_reducible exact LeO.refl _)
   | (with_reducible exact LeO.none _)
   | (with_reducible refine LeO.ite ?_ ?_)
   | (with_reducible refine LeO.bind ?_ (fun _ => ?_))
   | exact ih0 _ _ _ _
   | exact ih1 _ _ _ _ _
   | exact leb_length.mono _ _ _
   | exact LeO.none _
   | refine LeO.ite ?_ ?_
   | refine LeO.bind ?_ (fun _ => ?_)
  ·intro y0 y1 y2 y3 y4
   unfold leb_TakeS.l0
   repeat' first
   | (with_reducible exact ih0 _ _ _ _)
   | (with_reducible exact ih1 _ _ _ _ _)
   | (with_reducible exact leb_length.mono _ _ _)
   | (with_reducible exact LeO.refl _)
   | (with_reducible exact LeO.none _)
   | (with_reducible refine LeO.ite ?_ ?_)
   | (with_reducible refine LeO.bind ?_ (fun _ => ?_))
   | exact ih0 _ _ _ _
   | exact ih1 _ _ _ _ _
   | exact leb_length.mono _ _ _
   | exact LeO.none _
   | refine LeO.ite ?_ ?_
   | refine LeO.bind ?_ (fun _ => ?_)
theorem leb_TakeS.mono : ∀ a0 a1 k, LeO (leb_TakeS.f k a0 a1) (leb_TakeS.f (k + 1) a0 a1) := by
 intro a0 a1 k
 obtain ⟨ih0, ih1⟩ := leb_TakeS.mono_l k
 unfold leb_TakeS.f
 repeat' first
   | (with_reducible exact ih0 _ _ _ _)
   | (with_reducible exact ih1 _ _ _ _ _)
   | (with_reducible exact leb_length.mono _ _ _)
   | (with_reducible exact LeO.refl _)
   | (with_reducible exact LeO.none _)
   | (with_reducible refine LeO.ite ?_ ?_)
   | (with_reducible refine LeO.bind ?_ (fun _ => ?_))
   | exact ih0 _ _ _ _
   | exact ih1 _ _ _ _ _
   | exact leb_length.mono _ _ _
   | exact LeO.none _
   | refine LeO.ite ?_ ?_
   | refine LeO.bind ?_ (fun _ => ?_)
set_option maxHeartbeats 8000000 in
set_option maxRecDepth 100000 in
theorem leb_TakeS.calls (k : Nat) (A0 : Option Addr) (c0 : Nat) (l0 : List Int) (a1 : Int) (r1 : Int) (r2 : Int) (r3 : Option Int) (w : World) (hr0 : Kd.C (Kd.int .u8) w A0 l0.length l0) (hc0 : l0.length ≤ c0) (h : leb_TakeS.f k l0 a1 = some (r1, r2, r3)) :
  Calls Tryd.prog 11 #[.slice A0 l0.length c0, .int .i64 a1] w fun e w' => e = .returned (.tuple #[.int .i64 r1, .int .i64 r2, errW r3]) ∧ Drawn0 w w' := by
 have hu25 := Tryd.underlying25
 have hu66 := Tryd.underlying66
 have HR0 := Aside0.mk hr0
 have HC0 := Aside0.mk hc0
 clear hr0 hc0
 have H : ((leb_check.f a1).bind fun t109 => (if t109.isNone = true then ((leb_length.f k l0 a1).bind fun bt111 => (if bt111.2.isNone = true then (if 0 ≤ (wrap64 (bt111.1 - 1)) then (if (wrap64 (bt111.1 - 1)) < (l0.length : Int) then (if (Go.bits .and .u8 (rd l0 (wrap64 (bt111.1 - 1))) 64) = 0 then (leb_TakeS.j0 k l0 a1 bt111.1 0) else (leb_TakeS.j0 k l0 a1 bt111.1 (-1))) else (none)) else (none)) else (some (0, 0, some (bt111.2.getD 0))))) else (some (0, 0, some (t109.getD 0))))) = some (r1, r2, r3) := h
 clear h
 replace H := Option.bind_eq_some_iff.mp H
 obtain ⟨t109, A30, H⟩ := H
 replace H : (if t109.isNone = true then ((leb_length.f k l0 a1).bind fun bt111 => (if bt111.2.isNone = true then (if 0 ≤ (wrap64 (bt111.1 - 1)) then (if (wrap64 (bt111.1 - 1)) < (l0.length : Int) then (if (Go.bits .and .u8 (rd l0 (wrap64 (bt111.1 - 1))) 64) = 0 then (leb_TakeS.j0 k l0 a1 bt111.1 0) else (leb_TakeS.j0 k l0 a1 bt111.1 (-1))) else (none)) else (none)) else (some (0, 0, some (bt111.2.getD 0))))) else (some (0, 0, some (t109.getD 0)))) = some (r1, r2, r3) := H
 have A3 := Aside0.mk A30
 clear A30
 rcases t109 with _ | q110
 ·have H1 : ((leb_length.f k l0 a1).bind fun bt111 => (if bt111.2.isNone = true then (if 0 ≤ (wrap64 (bt111.1 - 1)) then (if (wrap64 (bt111.1 - 1)) < (l0.length : Int) then (if (Go.bits .and .u8 (rd l0 (wrap64 (bt111.1 - 1))) 64) = 0 then (leb_TakeS.j0 k l0 a1 bt111.1 0) else (leb_TakeS.j0 k l0 a1 bt111.1 (-1))) else (none)) else (none)) else (some (0, 0, some (bt111.2.getD 0))))) = some (r1, r2, r3) := by rw [if_pos (show (none : Option Int).isNone = true by rfl)] at H; exact H
  clear H
  have H := H1
  clear H1
  try simp only [errW_none, errW_some]
  replace H := Option.bind_eq_some_iff.mp H
  obtain ⟨⟨t111, t112⟩, A40, H⟩ := H
  replace H : (if t112.isNone = true then (if 0 ≤ (wrap64 (t111 - 1)) then (if (wrap64 (t111 - 1)) < (l0.length : Int) then (if (Go.bits .and .u8 (rd l0 (wrap64 (t111 - 1))) 64) = 0 then (leb_TakeS.j0 k l0 a1 t111 0) else (leb_TakeS.j0 k l0 a1 t111 (-1))) else (none)) else (none)) else (some (0, 0, some (t112.getD 0)))) = some (r1, r2, r3) := H
  have A4 := Aside0.mk A40
  clear A40
  rcases t112 with _ | q113
  ·have H1 : (if 0 ≤ (wrap64 (t111 - 1)) then (if (wrap64 (t111 - 1)) < (l0.length : Int) then (if (Go.bits .and .u8 (rd l0 (wrap64 (t111 - 1))) 64) = 0 then (leb_TakeS.j0 k l0 a1 t111 0) else (leb_TakeS.j0 k l0 a1 t111 (-1))) else (none)) else (none)) = some (r1, r2, r3) := by rw [if_pos (show (none : Option Int).isNone = true by rfl)] at H; exact H
   clear H
   have H := H1
   clear H1
   try simp only [errW_none, errW_some]
   obtain ⟨ji5, hji5⟩ : ∃ j_ : Int, (wrap64 (t111 - 1)) = j_ := ⟨_, rfl⟩
   replace H : (if 0 ≤ (ji5) then (if (ji5) < (l0.length : Int) then (if (Go.bits .and .u8 (rd l0 (ji5)) 64) = 0 then (leb_TakeS.j0 k l0 a1 t111 0) else (leb_TakeS.j0 k l0 a1 t111 (-1))) else (none)) else (none)) = some (r1, r2, r3) := by first | (rw [hji5] at H; exact H) | (simp only [hji5] at H ⊢; exact H)
   (try rw [hji5] at A3)
   (try rw [hji5] at A4)
   have hji5w : (IntKind.i64.wrap (t111 - 1)) = ji5 := (i64_w _).trans hji5
   by_cases c6 : 0 ≤ (ji5)
   ·rw [if_pos c6] at H
    have c6b0 : decide (0 ≤ (ji5)) = true := decide_eq_true c6
    clear c6
    by_cases c7 : (ji5) < (l0.length : Int)
    ·rw [if_pos c7] at H
     have c7b0 : decide ((ji5) < (l0.length : Int)) = true := decide_eq_true c7
     clear c7
     have HC8 := Aside0.mk H
     clear H
     go_enter Tryd.func11, Tryd.ntmps11
     go_upto_if 34 with (first | ((with_reducible refine gate_callee (f := 28) rfl ?_); refine goesL_ _ rfl rfl Tryd.func28 (by kernel_rfl) rfl #[.int .i64 a1] rfl (by (try simp only [List.map_toArray, List.map_cons, List.map_nil]); first | done | rfl | (simp only [List.length_drop, List.length_take]; rfl)) ?_; (with_reducible refine (leb_check.calls a1 none _ A3.out).mono ?_); rintro e w' ⟨rfl, ⟨nd, rfl⟩⟩; refine ⟨_, rfl, ?_⟩; (try simp only [errW_none, errW_some])) | ((with_reducible refine gate_callee (f := 29) rfl ?_); refine goesL_ _ rfl rfl Tryd.func29 (by kernel_rfl) rfl #[.slice A0 l0.length c0, .int .i64 a1] rfl (by (try simp only [List.map_toArray, List.map_cons, List.map_nil]); first | done | rfl | (simp only [List.length_drop, List.length_take]; rfl)) ?_; (with_reducible refine (leb_length.calls k _ _ l0 a1 t111 none _ ?side1 ?side2 A4.out).mono ?_); (case side1 => repeat (first | exact HR0.out | (with_reducible refine Kd.C_alloc ?_ _) | (with_reducible refine Kd.C_drewN ?_ _) | (with_reducible refine Kd.C_drew ?_))); (case side2 => exact HC0.out); rintro e w' ⟨rfl, ⟨nd, rfl⟩⟩; refine ⟨_, rfl, ?_⟩; (try simp only [errW_none, errW_some]); have p114 : 0 ≤ ((ji5) : Int) := of_decide_eq_true (by first | (with_reducible assumption) | assumption); have q114 : (ji5) < (l0.length : Int) := of_decide_eq_true (by first | (with_reducible assumption) | assumption); obtain ⟨ad114, e114, hx114_0⟩ := Kd.at_int HR0.out (ji5) p114 q114; cases e114; replace p114 := eq_true p114; replace q114 := eq_true q114))
     (try simp only [Act.put, List.setIfInBounds_toArray, List.set_cons_zero, List.set_cons_succ])
     go_cut [10] (fun v10 wc => ∃ (kq : Nat) (x10_7 : Int), v10 = .int .i64 x10_7 ∧ Aside0 (leb_TakeS.j0 kq l0 a1 t111 x10_7 = some (r1, r2, r3)) ∧ Aside0 (kq ≤ k) ∧ Drawn0 w wc)
     case first =>
      have H := HC8.out
      clear HC8
      by_cases c9 : (Go.bits .and .u8 (rd l0 (ji5)) 64) = 0
      ·rw [if_pos c9] at H
       have c9b0 : ((Go.bits .and .u8 (rd l0 (ji5)) 64) == 0) = true := beq_iff_eq.mpr c9
       have c9b1 : ((Go.bits .and .u8 (rd l0 (ji5)) 64) != 0) = false := bne_eq_false_iff_eq.mpr c9
       clear c9
       (first | rw [c9b0] | (simp only [i64_w, i32_w]; rw [c9b0]) | skip)
       have H' := Aside0.mk H
       clear H
       go_wp2
       go_meet
       case rel => exact ⟨_, (0), (by first | rfl | (simp; done) | (simp [*]; done)), H', ⟨by first | omega | exact Nat.le_refl _⟩, by repeat (first | exact Drawn0.refl _ | apply Drawn0.step)⟩
      ·rw [if_neg c9] at H
       have c9b0 : ((Go.bits .and .u8 (rd l0 (ji5)) 64) == 0) = false := beq_eq_false_iff_ne.mpr c9
       have c9b1 : ((Go.bits .and .u8 (rd l0 (ji5)) 64) != 0) = true := bne_iff_ne.mpr c9
       (first | rw [c9b0] | (simp only [i64_w, i32_w]; rw [c9b0]) | skip)
       have H' := Aside0.mk H
       clear H
       go_wp2
       go_meet
       case rel => exact ⟨_, ((-1)), (by first | rfl | (simp; done) | (simp [*]; done)), H', ⟨by first | omega | exact Nat.le_refl _⟩, by repeat (first | exact Drawn0.refl _ | apply Drawn0.step)⟩
     case rest =>
      clear HC8
      (try clear c1); (try clear p1); (try clear q1); (try clear hx1); (try clear c2); (try clear p2); (try clear c6); (try clear c6b0); (try clear p6); (try clear c7); (try clear c7b0); (try clear c9); (try clear c9b0); (try clear c9b1); (try clear hx114_0); (try clear p114); (try clear q110); (try clear q113); (try clear q114)
      obtain ⟨kq, x10_7, rfl, HA, HJ7, ⟨mc7, rfl⟩⟩ := hcut
      cases kq with
      | zero => exact absurd HA.out (by simp [leb_TakeS.j0])
      | succ kj7 =>
       have H := HA.out
       clear HA
       simp only [leb_TakeS.j0] at H
       have H' := Aside0.mk H
       clear H
       go_wp2
       go_loopg [10, 11] kj7 (fun kq v10 v11 w' => ∃ (x10_2 : Int) (x11_2 : Int), v10 = .int .i64 x10_2 ∧ v11 = .int .i64 x11_2 ∧ Aside0 (leb_TakeS.l0 kq l0 a1 t111 x10_2 x11_2 = some (r1, r2, r3)) ∧ Aside0 (kq ≤ kj7) ∧ Drawn0 w w')
       case atStart => exact ⟨(x10_7), (wrap64 (t111 - 1)), (by first | rfl | (simp; done) | (simp [*]; done)), (by first | rfl | (simp; done) | (simp [*]; done)), H', ⟨Nat.le_refl _⟩, by repeat (first | exact Drawn0.refl _ | apply Drawn0.step)⟩
       case round =>
        clear H'
        (try clear c1); (try clear p1); (try clear q1); (try clear hx1); (try clear c2); (try clear p2); (try clear c6); (try clear c6b0); (try clear p6); (try clear c7); (try clear c7b0); (try clear c9); (try clear c9b0); (try clear c9b1); (try clear hx114_0); (try clear p1); (try clear p114); (try clear p2); (try clear p6); (try clear q1); (try clear q110); (try clear q113); (try clear q114)
        obtain ⟨x10_2, x11_2, rfl, rfl, HA, HK2, ⟨m2, rfl⟩⟩ := hrel
        cases gk with
        | zero => exact absurd HA.out (by simp [leb_TakeS.l0])
        | succ k2 =>
         have H := HA.out
         clear HA
         simp only [leb_TakeS.l0] at H
         by_cases c10 : x11_2 ≥ 0
         ·rw [if_pos c10] at H
          have c10b0 : decide (0 ≤ x11_2) = true := decide_eq_true c10
          clear c10
          by_cases c11 : 0 ≤ x11_2
          ·rw [if_pos c11] at H
           have c11b0 : decide (0 ≤ x11_2) = true := decide_eq_true c11
           clear c11
           by_cases c12 : x11_2 < (l0.length : Int)
           ·rw [if_pos c12] at H
            have c12b0 : decide (x11_2 < (l0.length : Int)) = true := decide_eq_true c12
            clear c12
            have H' := Aside0.mk H
            clear H
            have p115 : 0 ≤ (x11_2 : Int) := of_decide_eq_true (by first | (with_reducible assumption) | assumption)
            have q115 : x11_2 < (l0.length : Int) := of_decide_eq_true (by first | (with_reducible assumption) | assumption)
            obtain ⟨ad115, e115, hx115_0⟩ := Kd.at_int HR0.out x11_2 p115 q115
            obtain rfl : ad114 = ad115 := (by injection e115)
            replace p115 := eq_true p115
            replace q115 := eq_true q115
            go_wp2
            go_roundg k2
            case measure => have := HJ7.out; have := HK2.out; omega
            case rel => exact ⟨(Go.bits .or .i64 (wrap64 (x10_2 * 128)) (wrap64 (Go.bits .andNot .u8 (rd l0 x11_2) 128))), (wrap64 (x11_2 - 1)), (by first | rfl | (simp; done) | (simp [*]; done)), (by first | rfl | (simp; done) | (simp [*]; done)), H', ⟨by have := HJ7.out; have := HK2.out; omega⟩, by repeat (first | exact Drawn0.refl _ | apply Drawn0.step)⟩
           ·rw [if_neg c12] at H
            exact absurd H (by simp)
          ·rw [if_neg c11] at H
           exact absurd H (by simp)
         ·rw [if_neg c10] at H
          have c10b0 : decide (0 ≤ x11_2) = false := decide_eq_false c10
          clear c10
          by_cases c13 : (wrap64 (a1 - (wrap64 (7 * (wrap64 (t111 - 1)))))) < 7
          ·rw [if_pos c13] at H
           have c13b0 : decide ((wrap64 (a1 - (wrap64 (7 * (wrap64 (t111 - 1)))))) < 7) = true := decide_eq_true c13
           clear c13
           (try rw [hji5] at c13b0)
           replace H : (if 0 ≤ (ji5) then (if (ji5) < (l0.length : Int) then (if 0 ≤ (wrap64 ((wrap64 (a1 - (wrap64 (7 * (ji5))))) - 1)) then (if (shr .i8 ((IntKind.i8.wrap (((rd l0 (ji5)) * 2) % 256)) / 2) (wrap64 ((wrap64 (a1 - (wrap64 (7 * (ji5))))) - 1))) = 0 then (some (x10_2, t111, none)) else (if (shr .i8 ((IntKind.i8.wrap (((rd l0 (ji5)) * 2) % 256)) / 2) (wrap64 ((wrap64 (a1 - (wrap64 (7 * (ji5))))) - 1))) = (-1) then (some (x10_2, t111, none)) else (some (0, 0, some 6)))) else (none)) else (none)) else (none)) = some (r1, r2, r3) := by first | (rw [hji5] at H; exact H) | (simp only [hji5] at H ⊢; exact H)
           by_cases c14 : 0 ≤ (ji5)
           ·rw [if_pos c14] at H
            have c14b0 : decide (0 ≤ (ji5)) = true := decide_eq_true c14
            clear c14
            by_cases c15 : (ji5) < (l0.length : Int)
            ·rw [if_pos c15] at H
             have c15b0 : decide ((ji5) < (l0.length : Int)) = true := decide_eq_true c15
             clear c15
             obtain ⟨ji16, hji16⟩ : ∃ j_ : Int, (wrap64 ((wrap64 (a1 - (wrap64 (7 * (ji5))))) - 1)) = j_ := ⟨_, rfl⟩
             replace H : (if 0 ≤ (ji16) then (if (shr .i8 ((IntKind.i8.wrap (((rd l0 (ji5)) * 2) % 256)) / 2) (ji16)) = 0 then (some (x10_2, t111, none)) else (if (shr .i8 ((IntKind.i8.wrap (((rd l0 (ji5)) * 2) % 256)) / 2) (ji16)) = (-1) then (some (x10_2, t111, none)) else (some (0, 0, some 6)))) else (none)) = some (r1, r2, r3) := by first | (rw [hji16] at H; exact H) | (simp only [hji16] at H ⊢; exact H)
             have hji16w : (IntKind.i64.wrap ((wrap64 (a1 - (wrap64 (7 * (ji5))))) - 1)) = ji16 := (i64_w _).trans hji16
             by_cases c17 : 0 ≤ (ji16)
             ·rw [if_pos c17] at H
              have c17b0 := eq_true c17
              have c17b1 : decide (0 ≤ (ji16)) = true := decide_eq_true c17
              clear c17
              obtain ⟨ji18, hji18⟩ : ∃ j_ : Int, (shr .i8 ((IntKind.i8.wrap (((rd l0 (ji5)) * 2) % 256)) / 2) (ji16)) = j_ := ⟨_, rfl⟩
              replace H : (if (ji18) = 0 then (some (x10_2, t111, none)) else (if (ji18) = (-1) then (some (x10_2, t111, none)) else (some (0, 0, some 6)))) = some (r1, r2, r3) := by first | (rw [hji18] at H; exact H) | (simp only [hji18] at H ⊢; exact H)
              have hji18_ : (((IntKind.i8.wrap (((rd l0 (ji5)) * 2) % 256)) / 2) / 2 ^ min (ji16).toNat 8) = ji18 := hji18
              have hji18z : (ji16) ≤ 8 → (((IntKind.i8.wrap (((rd l0 (ji5)) * 2) % 256)) / 2) / 2 ^ (ji16).toNat) = ji18 := shr_small hji18
              by_cases c19 : (ji18) = 0
              ·rw [if_pos c19] at H
               have c19b0 : ((ji18) == 0) = true := beq_iff_eq.mpr c19
               have c19b1 : ((ji18) != 0) = false := bne_eq_false_iff_eq.mpr c19
               clear c19
               simp only [Option.some.injEq, Prod.mk.injEq] at H
               obtain ⟨rfl, rfl, rfl⟩ := H
               have p116 : 0 ≤ ((ji5) : Int) := of_decide_eq_true (by first | (with_reducible assumption) | assumption)
               have q116 : (ji5) < (l0.length : Int) := of_decide_eq_true (by first | (with_reducible assumption) | assumption)
               obtain ⟨ad116, e116, hx116_0⟩ := Kd.at_int HR0.out (ji5) p116 q116
               obtain rfl : ad114 = ad116 := (by injection e116)
               replace p116 := eq_true p116
               replace q116 := eq_true q116
               go_wp2
               go_ret3
               exact ⟨by first | rfl | (simp; done) | (simp only [← hji5, ← hji16, ← hji18] <;> (first | rfl | simp)) | (simp [*]; done), by repeat (first | exact Drawn0.refl _ | apply Drawn0.step)⟩
              ·rw [if_neg c19] at H
               have c19b0 : ((ji18) == 0) = false := beq_eq_false_iff_ne.mpr c19
               have c19b1 : ((ji18) != 0) = true := bne_iff_ne.mpr c19
               by_cases c20 : (ji18) = (-1)
               ·rw [if_pos c20] at H
                have c20b0 : ((ji18) == (-1)) = true := beq_iff_eq.mpr c20
                have c20b1 : ((ji18) != (-1)) = false := bne_eq_false_iff_eq.mpr c20
                clear c20
                simp only [Option.some.injEq, Prod.mk.injEq] at H
                obtain ⟨rfl, rfl, rfl⟩ := H
                have p116 : 0 ≤ ((ji5) : Int) := of_decide_eq_true (by first | (with_reducible assumption) | assumption)
                have q116 : (ji5) < (l0.length : Int) := of_decide_eq_true (by first | (with_reducible assumption) | assumption)
                obtain ⟨ad116, e116, hx116_0⟩ := Kd.at_int HR0.out (ji5) p116 q116
                obtain rfl : ad114 = ad116 := (by injection e116)
                replace p116 := eq_true p116
                replace q116 := eq_true q116
                go_wp2
                go_ret3
                exact ⟨by first | rfl | (simp; done) | (simp only [← hji5, ← hji16, ← hji18] <;> (first | rfl | simp)) | (simp [*]; done), by repeat (first | exact Drawn0.refl _ | apply Drawn0.step)⟩
               ·rw [if_neg c20] at H
                have c20b0 : ((ji18) == (-1)) = false := beq_eq_false_iff_ne.mpr c20
                have c20b1 : ((ji18) != (-1)) = true := bne_iff_ne.mpr c20
                simp only [Option.some.injEq, Prod.mk.injEq] at H
                obtain ⟨rfl, rfl, rfl⟩ := H
                have p116 : 0 ≤ ((ji5) : Int) := of_decide_eq_true (by first | (with_reducible assumption) | assumption)
                have q116 : (ji5) < (l0.length : Int) := of_decide_eq_true (by first | (with_reducible assumption) | assumption)
                obtain ⟨ad116, e116, hx116_0⟩ := Kd.at_int HR0.out (ji5) p116 q116
                obtain rfl : ad114 = ad116 := (by injection e116)
                replace p116 := eq_true p116
                replace q116 := eq_true q116
                go_wp2
                go_ret3
                exact ⟨by first | rfl | (simp; done) | (simp only [← hji5, ← hji16, ← hji18] <;> (first | rfl | simp)) | (simp [*]; done), by repeat (first | exact Drawn0.refl _ | apply Drawn0.step)⟩
             ·rw [if_neg c17] at H
              exact absurd H (by simp)
            ·rw [if_neg c15] at H
             exact absurd H (by simp)
           ·rw [if_neg c14] at H
            exact absurd H (by simp)
          ·rw [if_neg c13] at H
           have c13b0 : decide ((wrap64 (a1 - (wrap64 (7 * (wrap64 (t111 - 1)))))) < 7) = false := decide_eq_false c13
           clear c13
           (try rw [hji5] at c13b0)
           simp only [Option.some.injEq, Prod.mk.injEq] at H
           obtain ⟨rfl, rfl, rfl⟩ := H
           go_wp2
           go_ret3
           exact ⟨by first | rfl | (simp; done) | (simp only [← hji5] <;> (first | rfl | simp)) | (simp [*]; done), by repeat (first | exact Drawn0.refl _ | apply Drawn0.step)⟩
    ·rw [if_neg c7] at H
     exact absurd H (by simp)
   ·rw [if_neg c6] at H
    exact absurd H (by simp)
  ·have H1 : (some (0, 0, some q113)) = some (r1, r2, r3) := by rw [if_neg (show ¬ (some q113).isNone = true by simp)] at H; exact H
   clear H
   have H := H1
   clear H1
   try simp only [errW_none, errW_some]
   simp only [Option.some.injEq, Prod.mk.injEq] at H
   obtain ⟨rfl, rfl, rfl⟩ := H
   go_enter Tryd.func11, Tryd.ntmps11
   go_wp2_with (first | ((with_reducible refine gate_callee (f := 28) rfl ?_); refine goesL_ _ rfl rfl Tryd.func28 (by kernel_rfl) rfl #[.int .i64 a1] rfl (by (try simp only [List.map_toArray, List.map_cons, List.map_nil]); first | done | rfl | (simp only [List.length_drop, List.length_take]; rfl)) ?_; (with_reducible refine (leb_check.calls a1 none _ A3.out).mono ?_); rintro e w' ⟨rfl, ⟨nd, rfl⟩⟩; refine ⟨_, rfl, ?_⟩; (try simp only [errW_none, errW_some])) | ((with_reducible refine gate_callee (f := 29) rfl ?_); refine goesL_ _ rfl rfl Tryd.func29 (by kernel_rfl) rfl #[.slice A0 l0.length c0, .int .i64 a1] rfl (by (try simp only [List.map_toArray, List.map_cons, List.map_nil]); first | done | rfl | (simp only [List.length_drop, List.length_take]; rfl)) ?_; (with_reducible refine (leb_length.calls k _ _ l0 a1 t111 (some q113) _ ?side1 ?side2 A4.out).mono ?_); (case side1 => repeat (first | exact HR0.out | (with_reducible refine Kd.C_alloc ?_ _) | (with_reducible refine Kd.C_drewN ?_ _) | (with_reducible refine Kd.C_drew ?_))); (case side2 => exact HC0.out); rintro e w' ⟨rfl, ⟨nd, rfl⟩⟩; refine ⟨_, rfl, ?_⟩; (try simp only [errW_none, errW_some])))
   go_ret3
   exact ⟨by first | rfl | (simp; done) | (simp [*]; done), by repeat (first | exact Drawn0.refl _ | apply Drawn0.step)⟩
 ·have H1 : (some (0, 0, some q110)) = some (r1, r2, r3) := by rw [if_neg (show ¬ (some q110).isNone = true by simp)] at H; exact H
  clear H
  have H := H1
  clear H1
  try simp only [errW_none, errW_some]
  simp only [Option.some.injEq, Prod.mk.injEq] at H
  obtain ⟨rfl, rfl, rfl⟩ := H
  go_enter Tryd.func11, Tryd.ntmps11
  go_wp2_with (first | ((with_reducible refine gate_callee (f := 28) rfl ?_); refine goesL_ _ rfl rfl Tryd.func28 (by kernel_rfl) rfl #[.int .i64 a1] rfl (by (try simp only [List.map_toArray, List.map_cons, List.map_nil]); first | done | rfl | (simp only [List.length_drop, List.length_take]; rfl)) ?_; (with_reducible refine (leb_check.calls a1 (some q110) _ A3.out).mono ?_); rintro e w' ⟨rfl, ⟨nd, rfl⟩⟩; refine ⟨_, rfl, ?_⟩; (try simp only [errW_none, errW_some])))
  go_ret3
  exact ⟨by first | rfl | (simp; done) | (simp [*]; done), by repeat (first | exact Drawn0.refl _ | apply Drawn0.step)⟩

end Go.Proofs.YtljmikfpknmnnaaDoor.XS
