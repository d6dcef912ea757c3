/- Functions of the Go program as Lean functions, and the proofs that the Go code answers as they do. Written by a program of this session. -/
import Derived.Test.YtolhijnkgkfjgaaDoorXCx0
-- slim
namespace Go.Proofs.YtolhijnkgkfjgaaDoor.XC
open Go.RowKit Go.Proofs.YtolhijnkgkfjgaaDoorW.PrintWords Go.Proofs.YtolhijnkgkfjgaaDoorW.PrintLast Go.Proofs.YtolhijnkgkfjgaaDoorW.PrintMore
attribute [local go_sem] max2_int min2_int max_two min_two max_three min_three max_four min_four   -- for this text's walks alone
set_option linter.unusedVariables false
set_option linter.unusedSimpArgs false

/-! ### mandrelref19_Hulls: function 11 -/
mutual
def mandrelref19_Hulls.l0 : Nat → List (S37) → Int → Int → Option (Int)
 | 0, _, _, _ => none
 | k + 1, x0, x3, x4 => if x4 < (x0.length : Int) then (if 0 ≤ x4 then (if (((rd_T37 x0 x4).f0).length : Int) = 0 then (mandrelref19_Hulls.l0 k x0 x3 (wrap64 (x4 + 1))) else (if 0 < (((rd_T37 x0 x4).f0).length : Int) then (mandrelref19_Hulls.l1 k x0 x3 x4 ((rd_T66 ((rd_T37 x0 x4).f0) 0).f0) 0 0) else (none))) else (none)) else (some x3)
def mandrelref19_Hulls.l1 : Nat → List (S37) → Int → Int → Int → Int → Int → Option (Int)
 | 0, _, _, _, _, _, _ => none
 | k + 1, x0, x3, x4, x5, x6, x7 => if x7 < (x0.length : Int) then (if 0 ≤ x7 then (if (((rd_T37 x0 x7).f0).length : Int) > 0 then (if 0 < (((rd_T37 x0 x7).f0).length : Int) then (if ((rd_T66 ((rd_T37 x0 x7).f0) 0).f0) ≤ x5 then (if 0 ≤ (wrap64 ((((rd_T37 x0 x7).f0).length : Int) - 1)) then (if (wrap64 ((((rd_T37 x0 x7).f0).length : Int) - 1)) < (((rd_T37 x0 x7).f0).length : Int) then (if x5 ≤ ((rd_T66 ((rd_T37 x0 x7).f0) (wrap64 ((((rd_T37 x0 x7).f0).length : Int) - 1))).f1) then (mandrelref19_Hulls.l1 k x0 x3 x4 x5 (wrap64 (x6 + 1)) (wrap64 (x7 + 1))) else (mandrelref19_Hulls.l1 k x0 x3 x4 x5 x6 (wrap64 (x7 + 1)))) else (none)) else (none)) else (mandrelref19_Hulls.l1 k x0 x3 x4 x5 x6 (wrap64 (x7 + 1)))) else (none)) else (mandrelref19_Hulls.l1 k x0 x3 x4 x5 x6 (wrap64 (x7 + 1)))) else (none)) else (mandrelref19_Hulls.l0 k x0 (mx x3 x6) (wrap64 (x4 + 1)))
end
def mandrelref19_Hulls.f (k : Nat) (l0 : List (S37)) : Option (Int) := mandrelref19_Hulls.l0 k l0 0 0
theorem mandrelref19_Hulls.mono_l : ∀ k, (∀ y0 y1 y2, LeO (mandrelref19_Hulls.l0 k y0 y1 y2) (mandrelref19_Hulls.l0 (k + 1) y0 y1 y2)) ∧ (∀ y0 y1 y2 y3 y4 y5, LeO (mandrelref19_Hulls.l1 k y0 y1 y2 y3 y4 y5) (mandrelref19_Hulls.l1 (k + 1) y0 y1 y2 y3 y4 y5))
 | 0 => ⟨fun _ _ _ r h => by simp [mandrelref19_Hulls.l0] at h, fun _ _ _ _ _ _ r h => by simp [mandrelref19_Hulls.l1] at h⟩
 | k + 1 => by
  obtain ⟨ih0, ih1⟩ := mandrelref19_Hulls.mono_l k
  refine ⟨?_, ?_⟩
  ·intro y0 y1 y2
   unfold mandrelref19_Hulls.l0
   repeat' first
   | (with_reducible exact ih0 _ _ _)
   | (with_reducible exact ih1 _ _ _ _ _ _)
   | (with_reducible exact LeO.refl _)
   | (with_reducible exact LeO.none _)
   | (with_reducible refine LeO.ite ?_ ?_)
   | (with_reducible refine LeO.bind ?_ (fun _ => ?_))
   | exact ih0 _ _ _
   | exact ih1 _ _ _ _ _ _
   | exact LeO.none _
   | refine LeO.ite ?_ ?_
   | refine LeO.bind ?_ (fun _ => ?_)
  ·intro y0 y1 y2 y3 y4 y5
   unfold mandrelref19_Hulls.l1
   repeat' first
   | (with_reducible exact ih0 _ _ _)
   | (with_reducible exact ih1 _ _ _ _ _ _)
   | (with_reducible exact LeO.refl _)
   | (with_reducible exact LeO.none _)
   | (with_reducible refine LeO.ite ?_ ?_)
   | (with_reducible refine LeO.bind ?_ (fun _ => ?_))
   | exact ih0 _ _ _
   | exact ih1 _ _ _ _ _ _
   | exact LeO.none _
   | refine LeO.ite ?_ ?_
   | refine LeO.bind ?_ (fun _ => ?_)
theorem mandrelref19_Hulls.mono : ∀ a0 k, LeO (mandrelref19_Hulls.f k a0) (mandrelref19_Hulls.f (k + 1) a0) := by
 intro a0 k
 obtain ⟨ih0, ih1⟩ := mandrelref19_Hulls.mono_l k
 unfold mandrelref19_Hulls.f
 repeat' first
   | (with_reducible exact ih0 _ _ _)
   | (with_reducible exact ih1 _ _ _ _ _ _)
   | (with_reducible exact LeO.refl _)
   | (with_reducible exact LeO.none _)
   | (with_reducible refine LeO.ite ?_ ?_)
   | (with_reducible refine LeO.bind ?_ (fun _ => ?_))
   | exact ih0 _ _ _
   | exact ih1 _ _ _ _ _ _
   | exact LeO.none _
   | refine LeO.ite ?_ ?_
   | refine LeO.bind ?_ (fun _ => ?_)
set_option maxHeartbeats 8000000 in
set_option maxRecDepth 100000 in
theorem mandrelref19_Hulls.calls (k : Nat) (A0 : Option Addr) (c0 : Nat) (l0 : List (S37)) (r : Int) (w : World) (hr0 : Kd.C k37 w A0 l0.length l0) (hc0 : l0.length ≤ c0) (h : mandrelref19_Hulls.f k l0 = some r) :
  Calls Tryd.prog 11 #[.slice A0 l0.length c0] w fun e w' => e = .returned (.int .i64 r) ∧ Drawn0 w w' := by
 have HR0 := Aside0.mk hr0
 have HC0 := Aside0.mk hc0
 clear hr0 hc0
 have H : (mandrelref19_Hulls.l0 k l0 0 0) = some r := h
 clear h
 have H' := Aside0.mk H
 clear H
 go_enter Tryd.func11, Tryd.ntmps11
 go_wp2
 go_loopg [3, 4] k (fun kq v3 v4 w' => ∃ (x3_1 : Int) (x4_1 : Int), v3 = .int .i64 x3_1 ∧ v4 = .int .i64 x4_1 ∧ Aside0 (mandrelref19_Hulls.l0 kq l0 x3_1 x4_1 = some r) ∧ Aside0 (kq ≤ k) ∧ Drawn0 w w')
 case atStart => exact ⟨(0), (0), (by first | rfl | (simp; done) | (simp [*]; done)), (by first | rfl | (simp; done) | (simp [*]; done)), H', ⟨Nat.le_refl _⟩, by repeat (first | exact Drawn0.refl _ | apply Drawn0.step)⟩
 case round =>
  clear H'
  try clear c1
  obtain ⟨x3_1, x4_1, rfl, rfl, HA, HK1, ⟨m1, rfl⟩⟩ := hrel
  cases gk with
  | zero => exact absurd HA.out (by simp [mandrelref19_Hulls.l0])
  | succ k1 =>
   have H := HA.out
   clear HA
   simp only [mandrelref19_Hulls.l0] at H
   by_cases c2 : x4_1 < (l0.length : Int)
   ·rw [if_pos c2] at H
    have c2b0 : decide (x4_1 < (l0.length : Int)) = true := decide_eq_true c2
    clear c2
    by_cases c3 : 0 ≤ x4_1
    ·rw [if_pos c3] at H
     have c3b0 : decide (0 ≤ x4_1) = true := decide_eq_true c3
     clear c3
     by_cases c4 : (((rd_T37 l0 x4_1).f0).length : Int) = 0
     ·rw [if_pos c4] at H
      have c4b0 : ((((rd_T37 l0 x4_1).f0).length : Int) == 0) = true := beq_iff_eq.mpr c4
      have c4b1 : ((((rd_T37 l0 x4_1).f0).length : Int) != 0) = false := bne_eq_false_iff_eq.mpr c4
      clear c4
      have H' := Aside0.mk H
      clear H
      have p199 : 0 ≤ (x4_1 : Int) := of_decide_eq_true (by first | (with_reducible assumption) | assumption)
      have q199 : x4_1 < (l0.length : Int) := of_decide_eq_true (by first | (with_reducible assumption) | assumption)
      obtain ⟨ad199, A199_0, c199_0, e199, hx199_0, hx199_1, hl199_0, hi199_0⟩ := at_T37 HR0.out x4_1 p199 q199
      cases e199
      have HR199_0 := Aside0.mk hi199_0
      have HC199_0 := Aside0.mk hl199_0
      clear hi199_0 hl199_0
      replace p199 := eq_true p199
      replace q199 := eq_true q199
      go_wp2
      go_roundg k1
      case measure => have := HK1.out; omega
      case rel => exact ⟨(x3_1), (wrap64 (x4_1 + 1)), (by first | rfl | (simp; done) | (simp [*]; done)), (by first | rfl | (simp; done) | (simp [*]; done)), H', ⟨by have := HK1.out; omega⟩, by repeat (first | exact Drawn0.refl _ | apply Drawn0.step)⟩
     ·rw [if_neg c4] at H
      have c4b0 : ((((rd_T37 l0 x4_1).f0).length : Int) == 0) = false := beq_eq_false_iff_ne.mpr c4
      have c4b1 : ((((rd_T37 l0 x4_1).f0).length : Int) != 0) = true := bne_iff_ne.mpr c4
      have c4b2 : ¬ (((rd_T37 l0 x4_1).f0) = []) := fun h_ => c4 (by rw [h_]; rfl)
      by_cases c5 : 0 < (((rd_T37 l0 x4_1).f0).length : Int)
      ·rw [if_pos c5] at H
       have c5b0 : decide (0 < (((rd_T37 l0 x4_1).f0).length : Int)) = true := decide_eq_true c5
       have c5b1 : decide (0 < ((rd_T37 l0 x4_1).f0).length) = true := decide_eq_true (by omega)
       clear c5
       have H' := Aside0.mk H
       clear H
       have p199 : 0 ≤ (x4_1 : Int) := of_decide_eq_true (by first | (with_reducible assumption) | assumption)
       have q199 : x4_1 < (l0.length : Int) := of_decide_eq_true (by first | (with_reducible assumption) | assumption)
       obtain ⟨ad199, A199_0, c199_0, e199, hx199_0, hx199_1, hl199_0, hi199_0⟩ := at_T37 HR0.out x4_1 p199 q199
       cases e199
       have HR199_0 := Aside0.mk hi199_0
       have HC199_0 := Aside0.mk hl199_0
       clear hi199_0 hl199_0
       replace p199 := eq_true p199
       replace q199 := eq_true q199
       have p200 : 0 ≤ (x4_1 : Int) := of_decide_eq_true (by first | (with_reducible assumption) | assumption)
       have q200 : x4_1 < (l0.length : Int) := of_decide_eq_true (by first | (with_reducible assumption) | assumption)
       obtain ⟨ad200, A200_0, c200_0, e200, hx200_0, hx200_1, hl200_0, hi200_0⟩ := at_T37 HR0.out x4_1 p200 q200
       obtain rfl : ad199 = ad200 := (by injection e200)
       have HR200_0 := Aside0.mk hi200_0
       have HC200_0 := Aside0.mk hl200_0
       clear hi200_0 hl200_0
       replace p200 := eq_true p200
       replace q200 := eq_true q200
       have ea_ := Option.some.inj (hx199_0.symm.trans hx200_0)
       injection ea_ with ea_ en_ ec_
       subst ea_
       subst ec_
       clear en_
       have p201 : 0 ≤ (0 : Int) := (by omega)
       have q201 : 0 < (((rd_T37 l0 x4_1).f0).length : Int) := of_decide_eq_true (by first | (with_reducible assumption) | assumption)
       obtain ⟨ad201, e201, hx201_0, hx201_1⟩ := at_T66 HR200_0.out 0 p201 q201
       cases e201
       have qi201 : (0 < ((rd_T37 l0 x4_1).f0).length) = True := eq_true (by omega)
       (try rw [show ((0 : Int)).toNat = 0 from rfl] at hx201_0)
       (try rw [show 0 * 2 = 0 from rfl] at hx201_0)
       (try rw [Addr.add_zero'] at hx201_0)
       (try rw [show ((0 : Int)).toNat = 0 from rfl] at hx201_1)
       (try rw [show 0 * 2 = 0 from rfl] at hx201_1)
       (try rw [Addr.add_zero'] at hx201_1)
       replace p201 := eq_true p201
       replace q201 := eq_true q201
       go_wp2
       go_loopg [6, 7] k1 (fun kq v6 v7 w' => ∃ (x6_2 : Int) (x7_2 : Int), v6 = .int .i64 x6_2 ∧ v7 = .int .i64 x7_2 ∧ Aside0 (mandrelref19_Hulls.l1 kq l0 x3_1 x4_1 ((rd_T66 ((rd_T37 l0 x4_1).f0) 0).f0) x6_2 x7_2 = some r) ∧ Aside0 (kq ≤ k1) ∧ Drawn0 w w')
       case atStart => exact ⟨(0), (0), (by first | rfl | (simp; done) | (simp [*]; done)), (by first | rfl | (simp; done) | (simp [*]; done)), H', ⟨Nat.le_refl _⟩, by repeat (first | exact Drawn0.refl _ | apply Drawn0.step)⟩
       case round =>
        clear H'
        (try clear c1); (try clear p1); (try clear q1); (try clear hx1); (try clear c2); (try clear c2b0); (try clear p2); (try clear q2); (try clear hx2); (try clear qi2); (try clear c3); (try clear c3b0); (try clear c4); (try clear c4b0); (try clear c4b1); (try clear c4b2); (try clear c5); (try clear c5b0); (try clear c5b1); (try clear hx199_0); (try clear hx199_1); (try clear hx200_0); (try clear hx200_1); (try clear hx201_0); (try clear hx201_1); (try clear p199); (try clear p200); (try clear p201); (try clear q199); (try clear q200); (try clear q201)
        obtain ⟨x6_2, x7_2, rfl, rfl, HA, HK2, ⟨m2, rfl⟩⟩ := hrel
        cases gk with
        | zero => exact absurd HA.out (by simp [mandrelref19_Hulls.l1])
        | succ k2 =>
         have H := HA.out
         clear HA
         simp only [mandrelref19_Hulls.l1] at H
         by_cases c6 : x7_2 < (l0.length : Int)
         ·rw [if_pos c6] at H
          have c6b0 : decide (x7_2 < (l0.length : Int)) = true := decide_eq_true c6
          clear c6
          by_cases c7 : 0 ≤ x7_2
          ·rw [if_pos c7] at H
           have c7b0 : decide (0 ≤ x7_2) = true := decide_eq_true c7
           clear c7
           by_cases c8 : (((rd_T37 l0 x7_2).f0).length : Int) > 0
           ·rw [if_pos c8] at H
            have c8b0 : decide (0 < (((rd_T37 l0 x7_2).f0).length : Int)) = true := decide_eq_true c8
            have c8b1 : decide (0 < ((rd_T37 l0 x7_2).f0).length) = true := decide_eq_true (by omega)
            clear c8
            by_cases c9 : 0 < (((rd_T37 l0 x7_2).f0).length : Int)
            ·rw [if_pos c9] at H
             have c9b0 : decide (0 < (((rd_T37 l0 x7_2).f0).length : Int)) = true := decide_eq_true c9
             have c9b1 : decide (0 < ((rd_T37 l0 x7_2).f0).length) = true := decide_eq_true (by omega)
             clear c9
             by_cases c10 : ((rd_T66 ((rd_T37 l0 x7_2).f0) 0).f0) ≤ ((rd_T66 ((rd_T37 l0 x4_1).f0) 0).f0)
             ·rw [if_pos c10] at H
              have c10b0 : decide (((rd_T66 ((rd_T37 l0 x7_2).f0) 0).f0) ≤ ((rd_T66 ((rd_T37 l0 x4_1).f0) 0).f0)) = true := decide_eq_true c10
              clear c10
              obtain ⟨ji11, hji11⟩ : ∃ j_ : Int, (wrap64 ((((rd_T37 l0 x7_2).f0).length : Int) - 1)) = j_ := ⟨_, rfl⟩
              replace H : (if 0 ≤ (ji11) then (if (ji11) < (((rd_T37 l0 x7_2).f0).length : Int) then (if ((rd_T66 ((rd_T37 l0 x4_1).f0) 0).f0) ≤ ((rd_T66 ((rd_T37 l0 x7_2).f0) (ji11)).f1) then (mandrelref19_Hulls.l1 k2 l0 x3_1 x4_1 ((rd_T66 ((rd_T37 l0 x4_1).f0) 0).f0) (wrap64 (x6_2 + 1)) (wrap64 (x7_2 + 1))) else (mandrelref19_Hulls.l1 k2 l0 x3_1 x4_1 ((rd_T66 ((rd_T37 l0 x4_1).f0) 0).f0) x6_2 (wrap64 (x7_2 + 1)))) else (none)) else (none)) = some r := by first | (rw [hji11] at H; exact H) | (simp only [hji11] at H ⊢; exact H)
              have hji11w : (IntKind.i64.wrap ((((rd_T37 l0 x7_2).f0).length : Int) - 1)) = ji11 := (i64_w _).trans hji11
              by_cases c12 : 0 ≤ (ji11)
              ·rw [if_pos c12] at H
               have c12b0 : decide (0 ≤ (ji11)) = true := decide_eq_true c12
               clear c12
               by_cases c13 : (ji11) < (((rd_T37 l0 x7_2).f0).length : Int)
               ·rw [if_pos c13] at H
                have c13b0 : decide ((ji11) < (((rd_T37 l0 x7_2).f0).length : Int)) = true := decide_eq_true c13
                clear c13
                by_cases c14 : ((rd_T66 ((rd_T37 l0 x4_1).f0) 0).f0) ≤ ((rd_T66 ((rd_T37 l0 x7_2).f0) (ji11)).f1)
                ·rw [if_pos c14] at H
                 have c14b0 : decide (((rd_T66 ((rd_T37 l0 x4_1).f0) 0).f0) ≤ ((rd_T66 ((rd_T37 l0 x7_2).f0) (ji11)).f1)) = true := decide_eq_true c14
                 clear c14
                 have H' := Aside0.mk H
                 clear H
                 have p202 : 0 ≤ (x7_2 : Int) := of_decide_eq_true (by first | (with_reducible assumption) | assumption)
                 have q202 : x7_2 < (l0.length : Int) := of_decide_eq_true (by first | (with_reducible assumption) | assumption)
                 obtain ⟨ad202, A202_0, c202_0, e202, hx202_0, hx202_1, hl202_0, hi202_0⟩ := at_T37 HR0.out x7_2 p202 q202
                 obtain rfl : ad199 = ad202 := (by injection e202)
                 have HR202_0 := Aside0.mk hi202_0
                 have HC202_0 := Aside0.mk hl202_0
                 clear hi202_0 hl202_0
                 replace p202 := eq_true p202
                 replace q202 := eq_true q202
                 have p203 : 0 ≤ (x7_2 : Int) := of_decide_eq_true (by first | (with_reducible assumption) | assumption)
                 have q203 : x7_2 < (l0.length : Int) := of_decide_eq_true (by first | (with_reducible assumption) | assumption)
                 obtain ⟨ad203, A203_0, c203_0, e203, hx203_0, hx203_1, hl203_0, hi203_0⟩ := at_T37 HR0.out x7_2 p203 q203
                 obtain rfl : ad199 = ad203 := (by injection e203)
                 have HR203_0 := Aside0.mk hi203_0
                 have HC203_0 := Aside0.mk hl203_0
                 clear hi203_0 hl203_0
                 replace p203 := eq_true p203
                 replace q203 := eq_true q203
                 have ea_ := Option.some.inj (hx202_0.symm.trans hx203_0)
                 injection ea_ with ea_ en_ ec_
                 subst ea_
                 subst ec_
                 clear en_
                 have p204 : 0 ≤ (0 : Int) := (by omega)
                 have q204 : 0 < (((rd_T37 l0 x7_2).f0).length : Int) := of_decide_eq_true (by first | (with_reducible assumption) | assumption)
                 obtain ⟨ad204, e204, hx204_0, hx204_1⟩ := at_T66 HR203_0.out 0 p204 q204
                 cases e204
                 have qi204 : (0 < ((rd_T37 l0 x7_2).f0).length) = True := eq_true (by omega)
                 (try rw [show ((0 : Int)).toNat = 0 from rfl] at hx204_0)
                 (try rw [show 0 * 2 = 0 from rfl] at hx204_0)
                 (try rw [Addr.add_zero'] at hx204_0)
                 (try rw [show ((0 : Int)).toNat = 0 from rfl] at hx204_1)
                 (try rw [show 0 * 2 = 0 from rfl] at hx204_1)
                 (try rw [Addr.add_zero'] at hx204_1)
                 replace p204 := eq_true p204
                 replace q204 := eq_true q204
                 have p205 : 0 ≤ (x7_2 : Int) := of_decide_eq_true (by first | (with_reducible assumption) | assumption)
                 have q205 : x7_2 < (l0.length : Int) := of_decide_eq_true (by first | (with_reducible assumption) | assumption)
                 obtain ⟨ad205, A205_0, c205_0, e205, hx205_0, hx205_1, hl205_0, hi205_0⟩ := at_T37 HR0.out x7_2 p205 q205
                 obtain rfl : ad199 = ad205 := (by injection e205)
                 have HR205_0 := Aside0.mk hi205_0
                 have HC205_0 := Aside0.mk hl205_0
                 clear hi205_0 hl205_0
                 replace p205 := eq_true p205
                 replace q205 := eq_true q205
                 have ea_ := Option.some.inj (hx202_0.symm.trans hx205_0)
                 injection ea_ with ea_ en_ ec_
                 subst ea_
                 subst ec_
                 clear en_
                 have p206 : 0 ≤ ((ji11) : Int) := of_decide_eq_true (by first | (with_reducible assumption) | assumption)
                 have q206 : (ji11) < (((rd_T37 l0 x7_2).f0).length : Int) := of_decide_eq_true (by first | (with_reducible assumption) | assumption)
                 obtain ⟨ad206, e206, hx206_0, hx206_1⟩ := at_T66 HR205_0.out (ji11) p206 q206
                 cases e206
                 replace p206 := eq_true p206
                 replace q206 := eq_true q206
                 go_wp2
                 go_roundg k2
                 case measure => have := HK1.out; have := HK2.out; omega
                 case rel => exact ⟨(wrap64 (x6_2 + 1)), (wrap64 (x7_2 + 1)), (by first | rfl | (simp; done) | (simp [*]; done)), (by first | rfl | (simp; done) | (simp [*]; done)), H', ⟨by have := HK1.out; have := HK2.out; omega⟩, by repeat (first | exact Drawn0.refl _ | apply Drawn0.step)⟩
                ·rw [if_neg c14] at H
                 have c14b0 : decide (((rd_T66 ((rd_T37 l0 x4_1).f0) 0).f0) ≤ ((rd_T66 ((rd_T37 l0 x7_2).f0) (ji11)).f1)) = false := decide_eq_false c14
                 clear c14
                 have H' := Aside0.mk H
                 clear H
                 have p202 : 0 ≤ (x7_2 : Int) := of_decide_eq_true (by first | (with_reducible assumption) | assumption)
                 have q202 : x7_2 < (l0.length : Int) := of_decide_eq_true (by first | (with_reducible assumption) | assumption)
                 obtain ⟨ad202, A202_0, c202_0, e202, hx202_0, hx202_1, hl202_0, hi202_0⟩ := at_T37 HR0.out x7_2 p202 q202
                 obtain rfl : ad199 = ad202 := (by injection e202)
                 have HR202_0 := Aside0.mk hi202_0
                 have HC202_0 := Aside0.mk hl202_0
                 clear hi202_0 hl202_0
                 replace p202 := eq_true p202
                 replace q202 := eq_true q202
                 have p203 : 0 ≤ (x7_2 : Int) := of_decide_eq_true (by first | (with_reducible assumption) | assumption)
                 have q203 : x7_2 < (l0.length : Int) := of_decide_eq_true (by first | (with_reducible assumption) | assumption)
                 obtain ⟨ad203, A203_0, c203_0, e203, hx203_0, hx203_1, hl203_0, hi203_0⟩ := at_T37 HR0.out x7_2 p203 q203
                 obtain rfl : ad199 = ad203 := (by injection e203)
                 have HR203_0 := Aside0.mk hi203_0
                 have HC203_0 := Aside0.mk hl203_0
                 clear hi203_0 hl203_0
                 replace p203 := eq_true p203
                 replace q203 := eq_true q203
                 have ea_ := Option.some.inj (hx202_0.symm.trans hx203_0)
                 injection ea_ with ea_ en_ ec_
                 subst ea_
                 subst ec_
                 clear en_
                 have p204 : 0 ≤ (0 : Int) := (by omega)
                 have q204 : 0 < (((rd_T37 l0 x7_2).f0).length : Int) := of_decide_eq_true (by first | (with_reducible assumption) | assumption)
                 obtain ⟨ad204, e204, hx204_0, hx204_1⟩ := at_T66 HR203_0.out 0 p204 q204
                 cases e204
                 have qi204 : (0 < ((rd_T37 l0 x7_2).f0).length) = True := eq_true (by omega)
                 (try rw [show ((0 : Int)).toNat = 0 from rfl] at hx204_0)
                 (try rw [show 0 * 2 = 0 from rfl] at hx204_0)
                 (try rw [Addr.add_zero'] at hx204_0)
                 (try rw [show ((0 : Int)).toNat = 0 from rfl] at hx204_1)
                 (try rw [show 0 * 2 = 0 from rfl] at hx204_1)
                 (try rw [Addr.add_zero'] at hx204_1)
                 replace p204 := eq_true p204
                 replace q204 := eq_true q204
                 have p205 : 0 ≤ (x7_2 : Int) := of_decide_eq_true (by first | (with_reducible assumption) | assumption)
                 have q205 : x7_2 < (l0.length : Int) := of_decide_eq_true (by first | (with_reducible assumption) | assumption)
                 obtain ⟨ad205, A205_0, c205_0, e205, hx205_0, hx205_1, hl205_0, hi205_0⟩ := at_T37 HR0.out x7_2 p205 q205
                 obtain rfl : ad199 = ad205 := (by injection e205)
                 have HR205_0 := Aside0.mk hi205_0
                 have HC205_0 := Aside0.mk hl205_0
                 clear hi205_0 hl205_0
                 replace p205 := eq_true p205
                 replace q205 := eq_true q205
                 have ea_ := Option.some.inj (hx202_0.symm.trans hx205_0)
                 injection ea_ with ea_ en_ ec_
                 subst ea_
                 subst ec_
                 clear en_
                 have p206 : 0 ≤ ((ji11) : Int) := of_decide_eq_true (by first | (with_reducible assumption) | assumption)
                 have q206 : (ji11) < (((rd_T37 l0 x7_2).f0).length : Int) := of_decide_eq_true (by first | (with_reducible assumption) | assumption)
                 obtain ⟨ad206, e206, hx206_0, hx206_1⟩ := at_T66 HR205_0.out (ji11) p206 q206
                 cases e206
                 replace p206 := eq_true p206
                 replace q206 := eq_true q206
                 go_wp2
                 go_roundg k2
                 case measure => have := HK1.out; have := HK2.out; omega
                 case rel => exact ⟨(x6_2), (wrap64 (x7_2 + 1)), (by first | rfl | (simp; done) | (simp [*]; done)), (by first | rfl | (simp; done) | (simp [*]; done)), H', ⟨by have := HK1.out; have := HK2.out; omega⟩, by repeat (first | exact Drawn0.refl _ | apply Drawn0.step)⟩
               ·rw [if_neg c13] at H
                exact absurd H (by simp)
              ·rw [if_neg c12] at H
               exact absurd H (by simp)
             ·rw [if_neg c10] at H
              have c10b0 : decide (((rd_T66 ((rd_T37 l0 x7_2).f0) 0).f0) ≤ ((rd_T66 ((rd_T37 l0 x4_1).f0) 0).f0)) = false := decide_eq_false c10
              clear c10
              have H' := Aside0.mk H
              clear H
              have p202 : 0 ≤ (x7_2 : Int) := of_decide_eq_true (by first | (with_reducible assumption) | assumption)
              have q202 : x7_2 < (l0.length : Int) := of_decide_eq_true (by first | (with_reducible assumption) | assumption)
              obtain ⟨ad202, A202_0, c202_0, e202, hx202_0, hx202_1, hl202_0, hi202_0⟩ := at_T37 HR0.out x7_2 p202 q202
              obtain rfl : ad199 = ad202 := (by injection e202)
              have HR202_0 := Aside0.mk hi202_0
              have HC202_0 := Aside0.mk hl202_0
              clear hi202_0 hl202_0
              replace p202 := eq_true p202
              replace q202 := eq_true q202
              have p203 : 0 ≤ (x7_2 : Int) := of_decide_eq_true (by first | (with_reducible assumption) | assumption)
              have q203 : x7_2 < (l0.length : Int) := of_decide_eq_true (by first | (with_reducible assumption) | assumption)
              obtain ⟨ad203, A203_0, c203_0, e203, hx203_0, hx203_1, hl203_0, hi203_0⟩ := at_T37 HR0.out x7_2 p203 q203
              obtain rfl : ad199 = ad203 := (by injection e203)
              have HR203_0 := Aside0.mk hi203_0
              have HC203_0 := Aside0.mk hl203_0
              clear hi203_0 hl203_0
              replace p203 := eq_true p203
              replace q203 := eq_true q203
              have ea_ := Option.some.inj (hx202_0.symm.trans hx203_0)
              injection ea_ with ea_ en_ ec_
              subst ea_
              subst ec_
              clear en_
              have p204 : 0 ≤ (0 : Int) := (by omega)
              have q204 : 0 < (((rd_T37 l0 x7_2).f0).length : Int) := of_decide_eq_true (by first | (with_reducible assumption) | assumption)
              obtain ⟨ad204, e204, hx204_0, hx204_1⟩ := at_T66 HR203_0.out 0 p204 q204
              cases e204
              have qi204 : (0 < ((rd_T37 l0 x7_2).f0).length) = True := eq_true (by omega)
              (try rw [show ((0 : Int)).toNat = 0 from rfl] at hx204_0)
              (try rw [show 0 * 2 = 0 from rfl] at hx204_0)
              (try rw [Addr.add_zero'] at hx204_0)
              (try rw [show ((0 : Int)).toNat = 0 from rfl] at hx204_1)
              (try rw [show 0 * 2 = 0 from rfl] at hx204_1)
              (try rw [Addr.add_zero'] at hx204_1)
              replace p204 := eq_true p204
              replace q204 := eq_true q204
              go_wp2
              go_roundg k2
              case measure => have := HK1.out; have := HK2.out; omega
              case rel => exact ⟨(x6_2), (wrap64 (x7_2 + 1)), (by first | rfl | (simp; done) | (simp [*]; done)), (by first | rfl | (simp; done) | (simp [*]; done)), H', ⟨by have := HK1.out; have := HK2.out; omega⟩, by repeat (first | exact Drawn0.refl _ | apply Drawn0.step)⟩
            ·rw [if_neg c9] at H
             exact absurd H (by simp)
           ·rw [if_neg c8] at H
            have c8b0 : decide (0 < (((rd_T37 l0 x7_2).f0).length : Int)) = false := decide_eq_false c8
            have c8b1 : decide (0 < ((rd_T37 l0 x7_2).f0).length) = false := decide_eq_false (by omega)
            clear c8
            have H' := Aside0.mk H
            clear H
            have p202 : 0 ≤ (x7_2 : Int) := of_decide_eq_true (by first | (with_reducible assumption) | assumption)
            have q202 : x7_2 < (l0.length : Int) := of_decide_eq_true (by first | (with_reducible assumption) | assumption)
            obtain ⟨ad202, A202_0, c202_0, e202, hx202_0, hx202_1, hl202_0, hi202_0⟩ := at_T37 HR0.out x7_2 p202 q202
            obtain rfl : ad199 = ad202 := (by injection e202)
            have HR202_0 := Aside0.mk hi202_0
            have HC202_0 := Aside0.mk hl202_0
            clear hi202_0 hl202_0
            replace p202 := eq_true p202
            replace q202 := eq_true q202
            go_wp2
            go_roundg k2
            case measure => have := HK1.out; have := HK2.out; omega
            case rel => exact ⟨(x6_2), (wrap64 (x7_2 + 1)), (by first | rfl | (simp; done) | (simp [*]; done)), (by first | rfl | (simp; done) | (simp [*]; done)), H', ⟨by have := HK1.out; have := HK2.out; omega⟩, by repeat (first | exact Drawn0.refl _ | apply Drawn0.step)⟩
          ·rw [if_neg c7] at H
           exact absurd H (by simp)
         ·rw [if_neg c6] at H
          have c6b0 : decide (x7_2 < (l0.length : Int)) = false := decide_eq_false c6
          clear c6
          obtain ⟨ji15, hji15⟩ : ∃ j_ : Int, (mx x3_1 x6_2) = j_ := ⟨_, rfl⟩
          replace H : (mandrelref19_Hulls.l0 k2 l0 ji15 (wrap64 (x4_1 + 1))) = some r := by first | (rw [hji15] at H; exact H) | (simp only [hji15] at H ⊢; exact H)
          have hji15_ : (if x3_1 < x6_2 then x6_2 else x3_1) = ji15 := hji15
          have H' := Aside0.mk H
          clear H
          go_wp2
          go_roundg k2
          case measure => have := HK1.out; have := HK2.out; omega
          case rel => exact ⟨(ji15), (wrap64 (x4_1 + 1)), (by first | rfl | (simp; done) | (simp only [← hji15] <;> (first | rfl | simp)) | (simp [*]; done)), (by first | rfl | (simp; done) | (simp [*]; done)), H', ⟨by have := HK1.out; have := HK2.out; omega⟩, by repeat (first | exact Drawn0.refl _ | apply Drawn0.step)⟩
      ·rw [if_neg c5] at H
       exact absurd H (by simp)
    ·rw [if_neg c3] at H
     exact absurd H (by simp)
   ·rw [if_neg c2] at H
    have c2b0 : decide (x4_1 < (l0.length : Int)) = false := decide_eq_false c2
    clear c2
    obtain rfl := Option.some.inj H
    go_wp2
    go_ret
    exact ⟨by first | rfl | (simp; done) | (simp [*]; done), by repeat (first | exact Drawn0.refl _ | apply Drawn0.step)⟩

-- NOT PRINTED: function 3 (mandrellaw19_ScanAssigns)

end Go.Proofs.YtolhijnkgkfjgaaDoor.XC
