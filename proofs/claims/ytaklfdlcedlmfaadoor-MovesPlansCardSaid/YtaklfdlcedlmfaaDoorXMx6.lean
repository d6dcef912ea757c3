/- Functions of the Go program as Lean functions, and the proofs that the Go code answers as they do. Written by a program of this session. -/
import Derived.Test.YtaklfdlcedlmfaaDoorXMx0
import Derived.Test.YtaklfdlcedlmfaaDoorXMx1
import Derived.Test.YtaklfdlcedlmfaaDoorXMx2
import Derived.Test.YtaklfdlcedlmfaaDoorXMx4
import Derived.Test.YtaklfdlcedlmfaaDoorXMx5
namespace Go.Proofs.YtaklfdlcedlmfaaDoor.XM
open Go.RowKit Go.Proofs.YtaklfdlcedlmfaaDoorW.PrintWords Go.Proofs.YtaklfdlcedlmfaaDoorW.PrintLast Go.Proofs.YtaklfdlcedlmfaaDoorW.PrintMore
attribute [local go_sem] max2_int min2_int max_two min_two max_three min_three max_four min_four   -- for this text's walks alone
set_option linter.unusedVariables false
set_option linter.unusedSimpArgs false

/-! ### mandrellaw20_MovesPlans: function 3 -/
mutual
def mandrellaw20_MovesPlans.j0 : Nat → List (S32) → Int → List (S46) → Option Int → Bool → Option (Bool)
  | 0, _, _, _, _, _ => none
  | k + 1, x0, x1, x5, x6, x7 => mandrellaw20_MovesPlans.l0 k x0 x1 x5 x6 x7 0 x1 0
def mandrellaw20_MovesPlans.l0 : Nat → List (S32) → Int → List (S46) → Option Int → Bool → Int → Int → Int → Option (Bool)
  | 0, _, _, _, _, _, _, _, _ => none
  | k + 1, x0, x1, x5, x6, x7, x8, x9, x10 => if x10 < (x0.length : Int) then (if x7 = true then (if 0 ≤ x10 then (if ((rd_T32 x0 x10).f0) = x1 then (if ((rd_T32 x0 x10).f0) = ((rd_T32 x0 x10).f1) then (mandrellaw20_MovesPlans.l0 k x0 x1 x5 x6 false x8 (mx (mx x9 ((rd_T32 x0 x10).f0)) ((rd_T32 x0 x10).f1)) (wrap64 (x10 + 1))) else (mandrellaw20_MovesPlans.l0 k x0 x1 x5 x6 false (wrap64 (x8 + 1)) (mx (mx x9 ((rd_T32 x0 x10).f0)) ((rd_T32 x0 x10).f1)) (wrap64 (x10 + 1)))) else (if ((rd_T32 x0 x10).f0) = ((rd_T32 x0 x10).f1) then (mandrellaw20_MovesPlans.l0 k x0 x1 x5 x6 (((rd_T32 x0 x10).f1) != x1) x8 (mx (mx x9 ((rd_T32 x0 x10).f0)) ((rd_T32 x0 x10).f1)) (wrap64 (x10 + 1))) else (mandrellaw20_MovesPlans.l0 k x0 x1 x5 x6 (((rd_T32 x0 x10).f1) != x1) (wrap64 (x8 + 1)) (mx (mx x9 ((rd_T32 x0 x10).f0)) ((rd_T32 x0 x10).f1)) (wrap64 (x10 + 1))))) else (none)) else (if 0 ≤ x10 then (if ((rd_T32 x0 x10).f0) = ((rd_T32 x0 x10).f1) then (mandrellaw20_MovesPlans.l0 k x0 x1 x5 x6 false x8 (mx (mx x9 ((rd_T32 x0 x10).f0)) ((rd_T32 x0 x10).f1)) (wrap64 (x10 + 1))) else (mandrellaw20_MovesPlans.l0 k x0 x1 x5 x6 false (wrap64 (x8 + 1)) (mx (mx x9 ((rd_T32 x0 x10).f0)) ((rd_T32 x0 x10).f1)) (wrap64 (x10 + 1)))) else (none))) else (if x7 = true then (if x6.isNone = true then ((mandrelref20_Rings.f k x0).bind fun t227 => (mandrellaw20_MovesPlans.j2 k x0 x1 x5 x9 ((x5.length : Int) != (wrap64 (x8 + (t227.length : Int)))))) else (mandrellaw20_MovesPlans.j2 k x0 x1 x5 x9 true)) else ((mandrellaw20_num.f x6).bind fun t224 => (if t224 = 1 then (if (x5.length : Int) = 0 then ((mandrellaw20_sure.f k).bind fun t225 => (some t225)) else (some false)) else (some false))))
def mandrellaw20_MovesPlans.j2 : Nat → List (S32) → Int → List (S46) → Int → Bool → Option (Bool)
  | 0, _, _, _, _, _ => none
  | k + 1, x0, x1, x5, x9, x112 => if x112 = true then (some false) else (if x9 > 5000 then ((mandrellaw20_sure.f k).bind fun t230 => (some t230)) else (if 0 ≤ (wrap64 (x9 + 1)) then (if (wrap64 (x9 + 1) : Int).toNat ≤ 35184372088832 then (mandrellaw20_MovesPlans.l1 k x0 x1 x5 (List.replicate (wrap64 (x9 + 1) : Int).toNat 0) 0) else (none)) else (none)))
def mandrellaw20_MovesPlans.l1 : Nat → List (S32) → Int → List (S46) → List Int → Int → Option (Bool)
  | 0, _, _, _, _, _ => none
  | k + 1, x0, x1, x5, x11, x12 => if x12 < (x11.length : Int) then (if 0 ≤ x12 then (mandrellaw20_MovesPlans.l1 k x0 x1 x5 (x11.set (x12 : Int).toNat (IntKind.u64.wrap (wrap64 (1000 + x12)))) (wrap64 (x12 + 1))) else (none)) else ((moves_Do.f k x11 x5).bind fun bt235 => (if bt235.1.isNone = true then (mandrellaw20_MovesPlans.l2 k x0 x1 bt235.2 0) else (some false)))
def mandrellaw20_MovesPlans.l2 : Nat → List (S32) → Int → List Int → Int → Option (Bool)
  | 0, _, _, _, _ => none
  | k + 1, x0, x1, x11, x13 => if x13 < (x11.length : Int) then (mandrellaw20_MovesPlans.l3 k x0 x1 x11 x13 (IntKind.u64.wrap (wrap64 (1000 + x13))) 0) else ((mandrellaw20_sure.f k).bind fun t238 => (some t238))
def mandrellaw20_MovesPlans.l3 : Nat → List (S32) → Int → List Int → Int → Int → Int → Option (Bool)
  | 0, _, _, _, _, _, _ => none
  | k + 1, x0, x1, x11, x13, x14, x15 => if x15 < (x0.length : Int) then (if 0 ≤ x15 then (if ((rd_T32 x0 x15).f0) = x13 then (mandrellaw20_MovesPlans.l3 k x0 x1 x11 x13 (IntKind.u64.wrap (wrap64 (1000 + ((rd_T32 x0 x15).f1)))) (wrap64 (x15 + 1))) else (mandrellaw20_MovesPlans.l3 k x0 x1 x11 x13 x14 (wrap64 (x15 + 1)))) else (none)) else (if x13 = x1 then (mandrellaw20_MovesPlans.l2 k x0 x1 x11 (wrap64 (x13 + 1))) else (if 0 ≤ x13 then (if x13 < (x11.length : Int) then (if (rd x11 x13) = x14 then (mandrellaw20_MovesPlans.l2 k x0 x1 x11 (wrap64 (x13 + 1))) else (some false)) else (none)) else (none)))
end
def mandrellaw20_MovesPlans.f (k : Nat) (l0 : List (S32)) (a1 : Int) : Option (Bool) := if (l0.length : Int) > 60 then ((mandrellaw20_sure.f k).bind fun t195 => (some t195)) else ((mandrellaw20_give.f k l0).bind fun t196 => ((moves_Plan.f t196 a1).bind fun bt199 => ((mandrelref20_May.f k l0).bind fun t203 => (if t203 = true then (if a1 ≥ 0 then (mandrellaw20_MovesPlans.j0 k l0 a1 bt199.1 bt199.2 (decide (a1 ≤ 1048576))) else (mandrellaw20_MovesPlans.j0 k l0 a1 bt199.1 bt199.2 false)) else (mandrellaw20_MovesPlans.j0 k l0 a1 bt199.1 bt199.2 false)))))
theorem mandrellaw20_MovesPlans.mono_l : ∀ k, (∀ y0 y1 y2 y3 y4, LeO (mandrellaw20_MovesPlans.j0 k y0 y1 y2 y3 y4) (mandrellaw20_MovesPlans.j0 (k + 1) y0 y1 y2 y3 y4)) ∧ (∀ y0 y1 y2 y3 y4 y5 y6 y7, LeO (mandrellaw20_MovesPlans.l0 k y0 y1 y2 y3 y4 y5 y6 y7) (mandrellaw20_MovesPlans.l0 (k + 1) y0 y1 y2 y3 y4 y5 y6 y7)) ∧ (∀ y0 y1 y2 y3 y4, LeO (mandrellaw20_MovesPlans.j2 k y0 y1 y2 y3 y4) (mandrellaw20_MovesPlans.j2 (k + 1) y0 y1 y2 y3 y4)) ∧ (∀ y0 y1 y2 y3 y4, LeO (mandrellaw20_MovesPlans.l1 k y0 y1 y2 y3 y4) (mandrellaw20_MovesPlans.l1 (k + 1) y0 y1 y2 y3 y4)) ∧ (∀ y0 y1 y2 y3, LeO (mandrellaw20_MovesPlans.l2 k y0 y1 y2 y3) (mandrellaw20_MovesPlans.l2 (k + 1) y0 y1 y2 y3)) ∧ (∀ y0 y1 y2 y3 y4 y5, LeO (mandrellaw20_MovesPlans.l3 k y0 y1 y2 y3 y4 y5) (mandrellaw20_MovesPlans.l3 (k + 1) y0 y1 y2 y3 y4 y5))
  | 0 => ⟨fun _ _ _ _ _ r h => by simp [mandrellaw20_MovesPlans.j0] at h, fun _ _ _ _ _ _ _ _ r h => by simp [mandrellaw20_MovesPlans.l0] at h, fun _ _ _ _ _ r h => by simp [mandrellaw20_MovesPlans.j2] at h, fun _ _ _ _ _ r h => by simp [mandrellaw20_MovesPlans.l1] at h, fun _ _ _ _ r h => by simp [mandrellaw20_MovesPlans.l2] at h, fun _ _ _ _ _ _ r h => by simp [mandrellaw20_MovesPlans.l3] at h⟩
  | k + 1 => by
    obtain ⟨ih0, ih1, ih2, ih3, ih4, ih5⟩ := mandrellaw20_MovesPlans.mono_l k
    refine ⟨?_, ?_, ?_, ?_, ?_, ?_⟩
    · intro y0 y1 y2 y3 y4
      unfold mandrellaw20_MovesPlans.j0
      repeat' first
      | (with_reducible exact ih0 _ _ _ _ _)
      | (with_reducible exact ih1 _ _ _ _ _ _ _ _)
      | (with_reducible exact ih2 _ _ _ _ _)
      | (with_reducible exact ih3 _ _ _ _ _)
      | (with_reducible exact ih4 _ _ _ _)
      | (with_reducible exact ih5 _ _ _ _ _ _)
      | (with_reducible exact mandrellaw20_give.mono _ _)
      | (with_reducible exact mandrellaw20_sure.mono _)
      | (with_reducible exact mandrelref20_May.mono _ _)
      | (with_reducible exact mandrelref20_Rings.mono _ _)
      | (with_reducible exact moves_Do.mono _ _ _)
      | (with_reducible exact LeO.refl _)
      | (with_reducible exact LeO.none _)
      | (with_reducible refine LeO.ite ?_ ?_)
      | (with_reducible refine LeO.bind ?_ (fun _ => ?_))
      | exact ih0 _ _ _ _ _
      | exact ih1 _ _ _ _ _ _ _ _
      | exact ih2 _ _ _ _ _
      | exact ih3 _ _ _ _ _
      | exact ih4 _ _ _ _
      | exact ih5 _ _ _ _ _ _
      | exact mandrellaw20_give.mono _ _
      | exact mandrellaw20_sure.mono _
      | exact mandrelref20_May.mono _ _
      | exact mandrelref20_Rings.mono _ _
      | exact moves_Do.mono _ _ _
      | exact LeO.none _
      | refine LeO.ite ?_ ?_
      | refine LeO.bind ?_ (fun _ => ?_)
    · intro y0 y1 y2 y3 y4 y5 y6 y7
      unfold mandrellaw20_MovesPlans.l0
      repeat' first
      | (with_reducible exact ih0 _ _ _ _ _)
      | (with_reducible exact ih1 _ _ _ _ _ _ _ _)
      | (with_reducible exact ih2 _ _ _ _ _)
      | (with_reducible exact ih3 _ _ _ _ _)
      | (with_reducible exact ih4 _ _ _ _)
      | (with_reducible exact ih5 _ _ _ _ _ _)
      | (with_reducible exact mandrellaw20_give.mono _ _)
      | (with_reducible exact mandrellaw20_sure.mono _)
      | (with_reducible exact mandrelref20_May.mono _ _)
      | (with_reducible exact mandrelref20_Rings.mono _ _)
      | (with_reducible exact moves_Do.mono _ _ _)
      | (with_reducible exact LeO.refl _)
      | (with_reducible exact LeO.none _)
      | (with_reducible refine LeO.ite ?_ ?_)
      | (with_reducible refine LeO.bind ?_ (fun _ => ?_))
      | exact ih0 _ _ _ _ _
      | exact ih1 _ _ _ _ _ _ _ _
      | exact ih2 _ _ _ _ _
      | exact ih3 _ _ _ _ _
      | exact ih4 _ _ _ _
      | exact ih5 _ _ _ _ _ _
      | exact mandrellaw20_give.mono _ _
      | exact mandrellaw20_sure.mono _
      | exact mandrelref20_May.mono _ _
      | exact mandrelref20_Rings.mono _ _
      | exact moves_Do.mono _ _ _
      | exact LeO.none _
      | refine LeO.ite ?_ ?_
      | refine LeO.bind ?_ (fun _ => ?_)
    · intro y0 y1 y2 y3 y4
      unfold mandrellaw20_MovesPlans.j2
      repeat' first
      | (with_reducible exact ih0 _ _ _ _ _)
      | (with_reducible exact ih1 _ _ _ _ _ _ _ _)
      | (with_reducible exact ih2 _ _ _ _ _)
      | (with_reducible exact ih3 _ _ _ _ _)
      | (with_reducible exact ih4 _ _ _ _)
      | (with_reducible exact ih5 _ _ _ _ _ _)
      | (with_reducible exact mandrellaw20_give.mono _ _)
      | (with_reducible exact mandrellaw20_sure.mono _)
      | (with_reducible exact mandrelref20_May.mono _ _)
      | (with_reducible exact mandrelref20_Rings.mono _ _)
      | (with_reducible exact moves_Do.mono _ _ _)
      | (with_reducible exact LeO.refl _)
      | (with_reducible exact LeO.none _)
      | (with_reducible refine LeO.ite ?_ ?_)
      | (with_reducible refine LeO.bind ?_ (fun _ => ?_))
      | exact ih0 _ _ _ _ _
      | exact ih1 _ _ _ _ _ _ _ _
      | exact ih2 _ _ _ _ _
      | exact ih3 _ _ _ _ _
      | exact ih4 _ _ _ _
      | exact ih5 _ _ _ _ _ _
      | exact mandrellaw20_give.mono _ _
      | exact mandrellaw20_sure.mono _
      | exact mandrelref20_May.mono _ _
      | exact mandrelref20_Rings.mono _ _
      | exact moves_Do.mono _ _ _
      | exact LeO.none _
      | refine LeO.ite ?_ ?_
      | refine LeO.bind ?_ (fun _ => ?_)
    · intro y0 y1 y2 y3 y4
      unfold mandrellaw20_MovesPlans.l1
      repeat' first
      | (with_reducible exact ih0 _ _ _ _ _)
      | (with_reducible exact ih1 _ _ _ _ _ _ _ _)
      | (with_reducible exact ih2 _ _ _ _ _)
      | (with_reducible exact ih3 _ _ _ _ _)
      | (with_reducible exact ih4 _ _ _ _)
      | (with_reducible exact ih5 _ _ _ _ _ _)
      | (with_reducible exact mandrellaw20_give.mono _ _)
      | (with_reducible exact mandrellaw20_sure.mono _)
      | (with_reducible exact mandrelref20_May.mono _ _)
      | (with_reducible exact mandrelref20_Rings.mono _ _)
      | (with_reducible exact moves_Do.mono _ _ _)
      | (with_reducible exact LeO.refl _)
      | (with_reducible exact LeO.none _)
      | (with_reducible refine LeO.ite ?_ ?_)
      | (with_reducible refine LeO.bind ?_ (fun _ => ?_))
      | exact ih0 _ _ _ _ _
      | exact ih1 _ _ _ _ _ _ _ _
      | exact ih2 _ _ _ _ _
      | exact ih3 _ _ _ _ _
      | exact ih4 _ _ _ _
      | exact ih5 _ _ _ _ _ _
      | exact mandrellaw20_give.mono _ _
      | exact mandrellaw20_sure.mono _
      | exact mandrelref20_May.mono _ _
      | exact mandrelref20_Rings.mono _ _
      | exact moves_Do.mono _ _ _
      | exact LeO.none _
      | refine LeO.ite ?_ ?_
      | refine LeO.bind ?_ (fun _ => ?_)
    · intro y0 y1 y2 y3
      unfold mandrellaw20_MovesPlans.l2
      repeat' first
      | (with_reducible exact ih0 _ _ _ _ _)
      | (with_reducible exact ih1 _ _ _ _ _ _ _ _)
      | (with_reducible exact ih2 _ _ _ _ _)
      | (with_reducible exact ih3 _ _ _ _ _)
      | (with_reducible exact ih4 _ _ _ _)
      | (with_reducible exact ih5 _ _ _ _ _ _)
      | (with_reducible exact mandrellaw20_give.mono _ _)
      | (with_reducible exact mandrellaw20_sure.mono _)
      | (with_reducible exact mandrelref20_May.mono _ _)
      | (with_reducible exact mandrelref20_Rings.mono _ _)
      | (with_reducible exact moves_Do.mono _ _ _)
      | (with_reducible exact LeO.refl _)
      | (with_reducible exact LeO.none _)
      | (with_reducible refine LeO.ite ?_ ?_)
      | (with_reducible refine LeO.bind ?_ (fun _ => ?_))
      | exact ih0 _ _ _ _ _
      | exact ih1 _ _ _ _ _ _ _ _
      | exact ih2 _ _ _ _ _
      | exact ih3 _ _ _ _ _
      | exact ih4 _ _ _ _
      | exact ih5 _ _ _ _ _ _
      | exact mandrellaw20_give.mono _ _
      | exact mandrellaw20_sure.mono _
      | exact mandrelref20_May.mono _ _
      | exact mandrelref20_Rings.mono _ _
      | exact moves_Do.mono _ _ _
      | exact LeO.none _
      | refine LeO.ite ?_ ?_
      | refine LeO.bind ?_ (fun _ => ?_)
    · intro y0 y1 y2 y3 y4 y5
      unfold mandrellaw20_MovesPlans.l3
      repeat' first
      | (with_reducible exact ih0 _ _ _ _ _)
      | (with_reducible exact ih1 _ _ _ _ _ _ _ _)
      | (with_reducible exact ih2 _ _ _ _ _)
      | (with_reducible exact ih3 _ _ _ _ _)
      | (with_reducible exact ih4 _ _ _ _)
      | (with_reducible exact ih5 _ _ _ _ _ _)
      | (with_reducible exact mandrellaw20_give.mono _ _)
      | (with_reducible exact mandrellaw20_sure.mono _)
      | (with_reducible exact mandrelref20_May.mono _ _)
      | (with_reducible exact mandrelref20_Rings.mono _ _)
      | (with_reducible exact moves_Do.mono _ _ _)
      | (with_reducible exact LeO.refl _)
      | (with_reducible exact LeO.none _)
      | (with_reducible refine LeO.ite ?_ ?_)
      | (with_reducible refine LeO.bind ?_ (fun _ => ?_))
      | exact ih0 _ _ _ _ _
      | exact ih1 _ _ _ _ _ _ _ _
      | exact ih2 _ _ _ _ _
      | exact ih3 _ _ _ _ _
      | exact ih4 _ _ _ _
      | exact ih5 _ _ _ _ _ _
      | exact mandrellaw20_give.mono _ _
      | exact mandrellaw20_sure.mono _
      | exact mandrelref20_May.mono _ _
      | exact mandrelref20_Rings.mono _ _
      | exact moves_Do.mono _ _ _
      | exact LeO.none _
      | refine LeO.ite ?_ ?_
      | refine LeO.bind ?_ (fun _ => ?_)
theorem mandrellaw20_MovesPlans.mono : ∀ a0 a1 k, LeO (mandrellaw20_MovesPlans.f k a0 a1) (mandrellaw20_MovesPlans.f (k + 1) a0 a1) := by
  intro a0 a1 k
  obtain ⟨ih0, ih1, ih2, ih3, ih4, ih5⟩ := mandrellaw20_MovesPlans.mono_l k
  unfold mandrellaw20_MovesPlans.f
  repeat' first
      | (with_reducible exact ih0 _ _ _ _ _)
      | (with_reducible exact ih1 _ _ _ _ _ _ _ _)
      | (with_reducible exact ih2 _ _ _ _ _)
      | (with_reducible exact ih3 _ _ _ _ _)
      | (with_reducible exact ih4 _ _ _ _)
      | (with_reducible exact ih5 _ _ _ _ _ _)
      | (with_reducible exact mandrellaw20_give.mono _ _)
      | (with_reducible exact mandrellaw20_sure.mono _)
      | (with_reducible exact mandrelref20_May.mono _ _)
      | (with_reducible exact mandrelref20_Rings.mono _ _)
      | (with_reducible exact moves_Do.mono _ _ _)
      | (with_reducible exact LeO.refl _)
      | (with_reducible exact LeO.none _)
      | (with_reducible refine LeO.ite ?_ ?_)
      | (with_reducible refine LeO.bind ?_ (fun _ => ?_))
      | exact ih0 _ _ _ _ _
      | exact ih1 _ _ _ _ _ _ _ _
      | exact ih2 _ _ _ _ _
      | exact ih3 _ _ _ _ _
      | exact ih4 _ _ _ _
      | exact ih5 _ _ _ _ _ _
      | exact mandrellaw20_give.mono _ _
      | exact mandrellaw20_sure.mono _
      | exact mandrelref20_May.mono _ _
      | exact mandrelref20_Rings.mono _ _
      | exact moves_Do.mono _ _ _
      | exact LeO.none _
      | refine LeO.ite ?_ ?_
      | refine LeO.bind ?_ (fun _ => ?_)
set_option maxHeartbeats 8000000 in
set_option maxRecDepth 100000 in
theorem mandrellaw20_MovesPlans.calls (k : Nat) (A0 : Option Addr) (c0 : Nat) (l0 : List (S32)) (a1 : Int) (r : Bool) (w : World) (hr0 : Kd.C k32 w A0 l0.length l0) (hc0 : l0.length ≤ c0) (hLE : LaidE w) (h : mandrellaw20_MovesPlans.f k l0 a1 = some r) :
    Calls Tryd.prog 3 #[.slice A0 l0.length c0, .int .i64 a1] w fun e w' => e = .returned (.bool r) ∧ Below w.heap.size w w' := by
  have hu26 := Tryd.underlying26
  have hu50 := Tryd.underlying50
  have HR0 := Aside0.mk hr0
  have HC0 := Aside0.mk hc0
  clear hr0 hc0
  have HB := Aside0.mk (Below.refl w.heap.size w)
  have H : (if (l0.length : Int) > 60 then ((mandrellaw20_sure.f k).bind fun t195 => (some t195)) else ((mandrellaw20_give.f k l0).bind fun t196 => ((moves_Plan.f t196 a1).bind fun bt199 => ((mandrelref20_May.f k l0).bind fun t203 => (if t203 = true then (if a1 ≥ 0 then (mandrellaw20_MovesPlans.j0 k l0 a1 bt199.1 bt199.2 (decide (a1 ≤ 1048576))) else (mandrellaw20_MovesPlans.j0 k l0 a1 bt199.1 bt199.2 false)) else (mandrellaw20_MovesPlans.j0 k l0 a1 bt199.1 bt199.2 false)))))) = some r := h
  clear h
  by_cases c3 : (l0.length : Int) > 60
  · rw [if_pos c3] at H
    have c3b0 : decide (60 < (l0.length : Int)) = true := decide_eq_true c3
    have c3b1 : decide (60 < l0.length) = true := decide_eq_true (by omega)
    clear c3
    replace H := Option.bind_eq_some_iff.mp H
    obtain ⟨t195, A40, H⟩ := H
    replace H : (some t195) = some r := H
    have A4 := Aside0.mk A40
    clear A40
    obtain rfl := Option.some.inj H
    go_enter Tryd.func3, Tryd.ntmps3
    go_wp2_with (first | (go_at_call 6; (with_reducible refine (mandrellaw20_sure.calls k  t195 _ A4.out).mono ?_); rintro e w5 ⟨rfl, hb⟩; have n0_ := Aside0.mk (below_step (by repeat (first | (with_reducible first | exact HB.out | apply below_alloc | apply pw_below_drewN | apply below_drew1) | exact HB.out)) hb); clear HB; have HB := n0_; clear n0_; (try clear hb); (try clear hb2); (try clear hk); (try clear hi)))
    repeat (go_quiet (first | (go_at_call 6; (with_reducible refine (mandrellaw20_sure.calls k  t195 _ A4.out).mono ?_); rintro e w5 ⟨rfl, hb⟩; have n0_ := Aside0.mk (below_step (by repeat (first | (with_reducible first | exact HB.out | apply below_alloc | apply pw_below_drewN | apply below_drew1) | exact HB.out)) hb); clear HB; have HB := n0_; clear n0_; (try clear hb); (try clear hb2); (try clear hk); (try clear hi))); try go_wp2_with (first | (go_at_call 6; (with_reducible refine (mandrellaw20_sure.calls k  t195 _ A4.out).mono ?_); rintro e w5 ⟨rfl, hb⟩; have n0_ := Aside0.mk (below_step (by repeat (first | (with_reducible first | exact HB.out | apply below_alloc | apply pw_below_drewN | apply below_drew1) | exact HB.out)) hb); clear HB; have HB := n0_; clear n0_; (try clear hb); (try clear hb2); (try clear hk); (try clear hi))))
    go_ret
    exact ⟨by first | rfl | (simp [errW_none, errW_some] <;> rfl) | (simp [*, errW_none, errW_some] <;> rfl), by repeat (first | (with_reducible first | exact HB.out | apply below_alloc | apply pw_below_drewN | apply below_drew1) | exact HB.out)⟩
  · rw [if_neg c3] at H
    have c3b0 : decide (60 < (l0.length : Int)) = false := decide_eq_false c3
    have c3b1 : decide (60 < l0.length) = false := decide_eq_false (by omega)
    clear c3
    replace H := Option.bind_eq_some_iff.mp H
    obtain ⟨t196, A60, H⟩ := H
    replace H : ((moves_Plan.f t196 a1).bind fun bt199 => ((mandrelref20_May.f k l0).bind fun t203 => (if t203 = true then (if a1 ≥ 0 then (mandrellaw20_MovesPlans.j0 k l0 a1 bt199.1 bt199.2 (decide (a1 ≤ 1048576))) else (mandrellaw20_MovesPlans.j0 k l0 a1 bt199.1 bt199.2 false)) else (mandrellaw20_MovesPlans.j0 k l0 a1 bt199.1 bt199.2 false)))) = some r := H
    have A6 := Aside0.mk A60
    clear A60
    replace H := Option.bind_eq_some_iff.mp H
    obtain ⟨⟨t199, t200⟩, A70, H⟩ := H
    replace H : ((mandrelref20_May.f k l0).bind fun t203 => (if t203 = true then (if a1 ≥ 0 then (mandrellaw20_MovesPlans.j0 k l0 a1 t199 t200 (decide (a1 ≤ 1048576))) else (mandrellaw20_MovesPlans.j0 k l0 a1 t199 t200 false)) else (mandrellaw20_MovesPlans.j0 k l0 a1 t199 t200 false))) = some r := H
    have A7 := Aside0.mk A70
    clear A70
    have HC8 := Aside0.mk H
    clear H
    go_enter Tryd.func3, Tryd.ntmps3
    go_upto_region 4 with (first | (go_at_call 8; (with_reducible refine (mandrellaw20_give.calls k _ _ l0 t196 _ ?side1 ?side2 A6.out).mono ?_); (case side1 => repeat (first | exact HR0.out | (with_reducible refine Kd.C_alloc ?_ _) | (with_reducible refine Kd.C_drewN ?_ _) | (with_reducible refine Kd.C_drew ?_))); (case side2 => exact HC0.out); rintro e w9 ⟨v197, rfl, ho0, hb⟩; have n0_ := Aside0.mk (Kd.R_lower ho0 (below_size (by repeat (first | (with_reducible first | exact HB.out | apply below_alloc | apply pw_below_drewN | apply below_drew1) | exact HB.out)))); have n1_ := Aside0.mk (below_step (by repeat (first | (with_reducible first | exact HB.out | apply below_alloc | apply pw_below_drewN | apply below_drew1) | exact HB.out)) hb); clear HB; have HO198 := n0_; have HB := n1_; clear n0_ n1_; (try clear hb); (try clear hb2); (try clear hk); (try clear hi); (try clear ho0); obtain ⟨Ao10, co10, eo10⟩ := Kd.R_slice HO198.out; subst eo10) | (go_at_call 7; (with_reducible refine (moves_Plan.calls _ _ t196 a1 t199 t200 _ ?side1 ?side2 A7.out).mono ?_); (case side1 => repeat (first | exact (Kd.R_reads' HO198.out).2.2 | (with_reducible refine Kd.C_alloc ?_ _) | (with_reducible refine Kd.C_drewN ?_ _) | (with_reducible refine Kd.C_drew ?_))); (case side2 => exact (Kd.R_reads' HO198.out).2.1); rintro e w11 ⟨v201, rfl, ho0, hb⟩; have n0_ := Aside0.mk (Kd.R_elder' (by (with_reducible repeat (first | apply Kd.R_alloc | apply Kd.R_drewN | apply Kd.R_drew)); exact HO198.out) (Kd.R_base ho0) hb); have n1_ := Aside0.mk (Kd.R_lower (Kd.R_new' ho0 (Kd.R_lt (by (with_reducible repeat (first | apply Kd.R_alloc | apply Kd.R_drewN | apply Kd.R_drew)); exact HO198.out))) (below_size (by repeat (first | (with_reducible first | exact HB.out | apply below_alloc | apply pw_below_drewN | apply below_drew1) | exact HB.out)))); have n2_ := Aside0.mk (below_step (by repeat (first | (with_reducible first | exact HB.out | apply below_alloc | apply pw_below_drewN | apply below_drew1) | exact HB.out)) hb); clear HO198; clear HB; have HO198 := n0_; have HO202 := n1_; have HB := n2_; clear n0_ n1_ n2_; (try clear hb); (try clear hb2); (try clear hk); (try clear hi); (try clear ho0); (try simp only [errW_none, errW_some])))
    repeat (go_quiet (first | (go_at_call 8; (with_reducible refine (mandrellaw20_give.calls k _ _ l0 t196 _ ?side1 ?side2 A6.out).mono ?_); (case side1 => repeat (first | exact HR0.out | (with_reducible refine Kd.C_alloc ?_ _) | (with_reducible refine Kd.C_drewN ?_ _) | (with_reducible refine Kd.C_drew ?_))); (case side2 => exact HC0.out); rintro e w9 ⟨v197, rfl, ho0, hb⟩; have n0_ := Aside0.mk (Kd.R_lower ho0 (below_size (by repeat (first | (with_reducible first | exact HB.out | apply below_alloc | apply pw_below_drewN | apply below_drew1) | exact HB.out)))); have n1_ := Aside0.mk (below_step (by repeat (first | (with_reducible first | exact HB.out | apply below_alloc | apply pw_below_drewN | apply below_drew1) | exact HB.out)) hb); clear HB; have HO198 := n0_; have HB := n1_; clear n0_ n1_; (try clear hb); (try clear hb2); (try clear hk); (try clear hi); (try clear ho0); obtain ⟨Ao10, co10, eo10⟩ := Kd.R_slice HO198.out; subst eo10) | (go_at_call 7; (with_reducible refine (moves_Plan.calls _ _ t196 a1 t199 t200 _ ?side1 ?side2 A7.out).mono ?_); (case side1 => repeat (first | exact (Kd.R_reads' HO198.out).2.2 | (with_reducible refine Kd.C_alloc ?_ _) | (with_reducible refine Kd.C_drewN ?_ _) | (with_reducible refine Kd.C_drew ?_))); (case side2 => exact (Kd.R_reads' HO198.out).2.1); rintro e w11 ⟨v201, rfl, ho0, hb⟩; have n0_ := Aside0.mk (Kd.R_elder' (by (with_reducible repeat (first | apply Kd.R_alloc | apply Kd.R_drewN | apply Kd.R_drew)); exact HO198.out) (Kd.R_base ho0) hb); have n1_ := Aside0.mk (Kd.R_lower (Kd.R_new' ho0 (Kd.R_lt (by (with_reducible repeat (first | apply Kd.R_alloc | apply Kd.R_drewN | apply Kd.R_drew)); exact HO198.out))) (below_size (by repeat (first | (with_reducible first | exact HB.out | apply below_alloc | apply pw_below_drewN | apply below_drew1) | exact HB.out)))); have n2_ := Aside0.mk (below_step (by repeat (first | (with_reducible first | exact HB.out | apply below_alloc | apply pw_below_drewN | apply below_drew1) | exact HB.out)) hb); clear HO198; clear HB; have HO198 := n0_; have HO202 := n1_; have HB := n2_; clear n0_ n1_ n2_; (try clear hb); (try clear hb2); (try clear hk); (try clear hi); (try clear ho0); (try simp only [errW_none, errW_some]))); go_upto_region 4 with (first | (go_at_call 8; (with_reducible refine (mandrellaw20_give.calls k _ _ l0 t196 _ ?side1 ?side2 A6.out).mono ?_); (case side1 => repeat (first | exact HR0.out | (with_reducible refine Kd.C_alloc ?_ _) | (with_reducible refine Kd.C_drewN ?_ _) | (with_reducible refine Kd.C_drew ?_))); (case side2 => exact HC0.out); rintro e w9 ⟨v197, rfl, ho0, hb⟩; have n0_ := Aside0.mk (Kd.R_lower ho0 (below_size (by repeat (first | (with_reducible first | exact HB.out | apply below_alloc | apply pw_below_drewN | apply below_drew1) | exact HB.out)))); have n1_ := Aside0.mk (below_step (by repeat (first | (with_reducible first | exact HB.out | apply below_alloc | apply pw_below_drewN | apply below_drew1) | exact HB.out)) hb); clear HB; have HO198 := n0_; have HB := n1_; clear n0_ n1_; (try clear hb); (try clear hb2); (try clear hk); (try clear hi); (try clear ho0); obtain ⟨Ao10, co10, eo10⟩ := Kd.R_slice HO198.out; subst eo10) | (go_at_call 7; (with_reducible refine (moves_Plan.calls _ _ t196 a1 t199 t200 _ ?side1 ?side2 A7.out).mono ?_); (case side1 => repeat (first | exact (Kd.R_reads' HO198.out).2.2 | (with_reducible refine Kd.C_alloc ?_ _) | (with_reducible refine Kd.C_drewN ?_ _) | (with_reducible refine Kd.C_drew ?_))); (case side2 => exact (Kd.R_reads' HO198.out).2.1); rintro e w11 ⟨v201, rfl, ho0, hb⟩; have n0_ := Aside0.mk (Kd.R_elder' (by (with_reducible repeat (first | apply Kd.R_alloc | apply Kd.R_drewN | apply Kd.R_drew)); exact HO198.out) (Kd.R_base ho0) hb); have n1_ := Aside0.mk (Kd.R_lower (Kd.R_new' ho0 (Kd.R_lt (by (with_reducible repeat (first | apply Kd.R_alloc | apply Kd.R_drewN | apply Kd.R_drew)); exact HO198.out))) (below_size (by repeat (first | (with_reducible first | exact HB.out | apply below_alloc | apply pw_below_drewN | apply below_drew1) | exact HB.out)))); have n2_ := Aside0.mk (below_step (by repeat (first | (with_reducible first | exact HB.out | apply below_alloc | apply pw_below_drewN | apply below_drew1) | exact HB.out)) hb); clear HO198; clear HB; have HO198 := n0_; have HO202 := n1_; have HB := n2_; clear n0_ n1_ n2_; (try clear hb); (try clear hb2); (try clear hk); (try clear hi); (try clear ho0); (try simp only [errW_none, errW_some]))))
    (try simp only [Act.put, List.setIfInBounds_toArray, List.set_cons_zero, List.set_cons_succ])
    go_cut [7] (fun v7 wc => ∃ (kq : Nat) (x7_7 : Bool), v7 = .bool x7_7 ∧ Aside0 (mandrellaw20_MovesPlans.j0 kq l0 a1 t199 t200 x7_7 = some r) ∧ Aside0 (kq ≤ k) ∧ Aside0 (Kd.R k46 46 wc w.heap.size (fun _ => True) v201 t199) ∧ Aside0 (Below w.heap.size w wc))
    case first =>
      have H := HC8.out
      clear HC8
      replace H := Option.bind_eq_some_iff.mp H
      obtain ⟨t203, A120, H⟩ := H
      replace H : (if t203 = true then (if a1 ≥ 0 then (mandrellaw20_MovesPlans.j0 k l0 a1 t199 t200 (decide (a1 ≤ 1048576))) else (mandrellaw20_MovesPlans.j0 k l0 a1 t199 t200 false)) else (mandrellaw20_MovesPlans.j0 k l0 a1 t199 t200 false)) = some r := H
      have A12 := Aside0.mk A120
      clear A120
      by_cases c13 : t203 = true
      · subst c13
        have H1 : (if a1 ≥ 0 then (mandrellaw20_MovesPlans.j0 k l0 a1 t199 t200 (decide (a1 ≤ 1048576))) else (mandrellaw20_MovesPlans.j0 k l0 a1 t199 t200 false)) = some r := by rw [if_pos rfl] at H; exact H
        clear H
        have H := H1
        clear H1
        by_cases c14 : a1 ≥ 0
        · rw [if_pos c14] at H
          have c14b0 : decide (0 ≤ a1) = true := decide_eq_true c14
          clear c14
          (first | rw [c14b0] | (simp only [i64_w, i32_w]; rw [c14b0]) | skip)
          have H' := Aside0.mk H
          clear H
          go_wp2_with (first | (go_at_call 9; (with_reducible refine (mandrelref20_May.calls k _ _ l0 true _ ?side1 ?side2 A12.out).mono ?_); (case side1 => repeat (first | exact (Kd.C_below HR0.out HB.out) | (with_reducible refine Kd.C_alloc ?_ _) | (with_reducible refine Kd.C_drewN ?_ _) | (with_reducible refine Kd.C_drew ?_))); (case side2 => exact HC0.out); rintro e w' ⟨rfl, ⟨nd, rfl⟩⟩; (try first | exact ⟨rfl, _, World.drewN_drewN _ _ _⟩ | exact ⟨rfl, _, Eq.trans (World.drewN_drewN _ _ _) (congrArg (World.drewN _) (Nat.add_assoc _ _ _))⟩)))
          repeat (go_quiet (first | (go_at_call 9; (with_reducible refine (mandrelref20_May.calls k _ _ l0 true _ ?side1 ?side2 A12.out).mono ?_); (case side1 => repeat (first | exact (Kd.C_below HR0.out HB.out) | (with_reducible refine Kd.C_alloc ?_ _) | (with_reducible refine Kd.C_drewN ?_ _) | (with_reducible refine Kd.C_drew ?_))); (case side2 => exact HC0.out); rintro e w' ⟨rfl, ⟨nd, rfl⟩⟩; (try first | exact ⟨rfl, _, World.drewN_drewN _ _ _⟩ | exact ⟨rfl, _, Eq.trans (World.drewN_drewN _ _ _) (congrArg (World.drewN _) (Nat.add_assoc _ _ _))⟩))); try go_wp2_with (first | (go_at_call 9; (with_reducible refine (mandrelref20_May.calls k _ _ l0 true _ ?side1 ?side2 A12.out).mono ?_); (case side1 => repeat (first | exact (Kd.C_below HR0.out HB.out) | (with_reducible refine Kd.C_alloc ?_ _) | (with_reducible refine Kd.C_drewN ?_ _) | (with_reducible refine Kd.C_drew ?_))); (case side2 => exact HC0.out); rintro e w' ⟨rfl, ⟨nd, rfl⟩⟩; (try first | exact ⟨rfl, _, World.drewN_drewN _ _ _⟩ | exact ⟨rfl, _, Eq.trans (World.drewN_drewN _ _ _) (congrArg (World.drewN _) (Nat.add_assoc _ _ _))⟩))))
          go_meet
          case rel => exact ⟨_, (decide (a1 ≤ 1048576)), (by first | rfl | (simp; done) | (simp [*]; done)), H', ⟨by first | omega | exact Nat.le_refl _⟩, ⟨by (with_reducible repeat (first | apply Kd.R_alloc | apply Kd.R_drewN | apply Kd.R_drew)); exact Kd.R_mono HO202.out (fun _ hk => trivial)⟩, ⟨by repeat (first | (with_reducible first | exact HB.out | apply below_alloc | apply pw_below_drewN | apply below_drew1) | exact HB.out)⟩⟩
        · rw [if_neg c14] at H
          have c14b0 : decide (0 ≤ a1) = false := decide_eq_false c14
          clear c14
          (first | rw [c14b0] | (simp only [i64_w, i32_w]; rw [c14b0]) | skip)
          have H' := Aside0.mk H
          clear H
          go_wp2_with (first | (go_at_call 9; (with_reducible refine (mandrelref20_May.calls k _ _ l0 true _ ?side1 ?side2 A12.out).mono ?_); (case side1 => repeat (first | exact (Kd.C_below HR0.out HB.out) | (with_reducible refine Kd.C_alloc ?_ _) | (with_reducible refine Kd.C_drewN ?_ _) | (with_reducible refine Kd.C_drew ?_))); (case side2 => exact HC0.out); rintro e w' ⟨rfl, ⟨nd, rfl⟩⟩; (try first | exact ⟨rfl, _, World.drewN_drewN _ _ _⟩ | exact ⟨rfl, _, Eq.trans (World.drewN_drewN _ _ _) (congrArg (World.drewN _) (Nat.add_assoc _ _ _))⟩)))
          repeat (go_quiet (first | (go_at_call 9; (with_reducible refine (mandrelref20_May.calls k _ _ l0 true _ ?side1 ?side2 A12.out).mono ?_); (case side1 => repeat (first | exact (Kd.C_below HR0.out HB.out) | (with_reducible refine Kd.C_alloc ?_ _) | (with_reducible refine Kd.C_drewN ?_ _) | (with_reducible refine Kd.C_drew ?_))); (case side2 => exact HC0.out); rintro e w' ⟨rfl, ⟨nd, rfl⟩⟩; (try first | exact ⟨rfl, _, World.drewN_drewN _ _ _⟩ | exact ⟨rfl, _, Eq.trans (World.drewN_drewN _ _ _) (congrArg (World.drewN _) (Nat.add_assoc _ _ _))⟩))); try go_wp2_with (first | (go_at_call 9; (with_reducible refine (mandrelref20_May.calls k _ _ l0 true _ ?side1 ?side2 A12.out).mono ?_); (case side1 => repeat (first | exact (Kd.C_below HR0.out HB.out) | (with_reducible refine Kd.C_alloc ?_ _) | (with_reducible refine Kd.C_drewN ?_ _) | (with_reducible refine Kd.C_drew ?_))); (case side2 => exact HC0.out); rintro e w' ⟨rfl, ⟨nd, rfl⟩⟩; (try first | exact ⟨rfl, _, World.drewN_drewN _ _ _⟩ | exact ⟨rfl, _, Eq.trans (World.drewN_drewN _ _ _) (congrArg (World.drewN _) (Nat.add_assoc _ _ _))⟩))))
          go_meet
          case rel => exact ⟨_, (false), (by first | rfl | (simp; done) | (simp [*]; done)), H', ⟨by first | omega | exact Nat.le_refl _⟩, ⟨by (with_reducible repeat (first | apply Kd.R_alloc | apply Kd.R_drewN | apply Kd.R_drew)); exact Kd.R_mono HO202.out (fun _ hk => trivial)⟩, ⟨by repeat (first | (with_reducible first | exact HB.out | apply below_alloc | apply pw_below_drewN | apply below_drew1) | exact HB.out)⟩⟩
      · replace c13 := Bool.eq_false_iff.mpr c13
        subst c13
        have H1 : (mandrellaw20_MovesPlans.j0 k l0 a1 t199 t200 false) = some r := by rw [if_neg (show ¬ (false = true) by decide)] at H; exact H
        clear H
        have H := H1
        clear H1
        have H' := Aside0.mk H
        clear H
        go_wp2_with (first | (go_at_call 9; (with_reducible refine (mandrelref20_May.calls k _ _ l0 false _ ?side1 ?side2 A12.out).mono ?_); (case side1 => repeat (first | exact (Kd.C_below HR0.out HB.out) | (with_reducible refine Kd.C_alloc ?_ _) | (with_reducible refine Kd.C_drewN ?_ _) | (with_reducible refine Kd.C_drew ?_))); (case side2 => exact HC0.out); rintro e w' ⟨rfl, ⟨nd, rfl⟩⟩; (try first | exact ⟨rfl, _, World.drewN_drewN _ _ _⟩ | exact ⟨rfl, _, Eq.trans (World.drewN_drewN _ _ _) (congrArg (World.drewN _) (Nat.add_assoc _ _ _))⟩)))
        repeat (go_quiet (first | (go_at_call 9; (with_reducible refine (mandrelref20_May.calls k _ _ l0 false _ ?side1 ?side2 A12.out).mono ?_); (case side1 => repeat (first | exact (Kd.C_below HR0.out HB.out) | (with_reducible refine Kd.C_alloc ?_ _) | (with_reducible refine Kd.C_drewN ?_ _) | (with_reducible refine Kd.C_drew ?_))); (case side2 => exact HC0.out); rintro e w' ⟨rfl, ⟨nd, rfl⟩⟩; (try first | exact ⟨rfl, _, World.drewN_drewN _ _ _⟩ | exact ⟨rfl, _, Eq.trans (World.drewN_drewN _ _ _) (congrArg (World.drewN _) (Nat.add_assoc _ _ _))⟩))); try go_wp2_with (first | (go_at_call 9; (with_reducible refine (mandrelref20_May.calls k _ _ l0 false _ ?side1 ?side2 A12.out).mono ?_); (case side1 => repeat (first | exact (Kd.C_below HR0.out HB.out) | (with_reducible refine Kd.C_alloc ?_ _) | (with_reducible refine Kd.C_drewN ?_ _) | (with_reducible refine Kd.C_drew ?_))); (case side2 => exact HC0.out); rintro e w' ⟨rfl, ⟨nd, rfl⟩⟩; (try first | exact ⟨rfl, _, World.drewN_drewN _ _ _⟩ | exact ⟨rfl, _, Eq.trans (World.drewN_drewN _ _ _) (congrArg (World.drewN _) (Nat.add_assoc _ _ _))⟩))))
        go_meet
        case rel => exact ⟨_, (false), (by first | rfl | (simp; done) | (simp [*]; done)), H', ⟨by first | omega | exact Nat.le_refl _⟩, ⟨by (with_reducible repeat (first | apply Kd.R_alloc | apply Kd.R_drewN | apply Kd.R_drew)); exact Kd.R_mono HO202.out (fun _ hk => trivial)⟩, ⟨by repeat (first | (with_reducible first | exact HB.out | apply below_alloc | apply pw_below_drewN | apply below_drew1) | exact HB.out)⟩⟩
    case rest =>
      clear HC8
      try clear c1
      try clear p2
      try clear c3
      try clear c3b0
      try clear c3b1
      try clear c13
      try clear c14
      try clear c14b0
      obtain ⟨kq, x7_7, rfl, HA, HJ7, HO_5, HB⟩ := hcut
      cases kq with
      | zero => exact absurd HA.out (by simp [mandrellaw20_MovesPlans.j0])
      | succ kj7 =>
        have H := HA.out
        clear HA
        simp only [mandrellaw20_MovesPlans.j0] at H
        have H' := Aside0.mk H
        clear H
        go_wp2
        repeat (go_quiet (fail); try go_wp2)
        go_loopg [7, 8, 9, 10] kj7 (fun kq v7 v8 v9 v10 w' => ∃ (x7_2 : Bool) (x8_2 : Int) (x9_2 : Int) (x10_2 : Int), v7 = .bool x7_2 ∧ v8 = .int .i64 x8_2 ∧ v9 = .int .i64 x9_2 ∧ v10 = .int .i64 x10_2 ∧ Aside0 (mandrellaw20_MovesPlans.l0 kq l0 a1 t199 t200 x7_2 x8_2 x9_2 x10_2 = some r) ∧ Aside0 (kq ≤ kj7) ∧ Aside0 (Kd.R k46 46 w' w.heap.size (fun _ => True) v201 t199) ∧ Aside0 (Below w.heap.size w w'))
        case atStart => exact ⟨(x7_7), (0), (a1), (0), (by first | rfl | (simp; done) | (simp [*]; done)), (by first | rfl | (simp; done) | (simp [*]; done)), (by first | rfl | (simp; done) | (simp [*]; done)), (by first | rfl | (simp; done) | (simp [*]; done)), H', ⟨Nat.le_refl _⟩, ⟨by (with_reducible repeat (first | apply Kd.R_alloc | apply Kd.R_drewN | apply Kd.R_drew)); exact HO_5.out⟩, ⟨by repeat (first | (with_reducible first | exact HB.out | apply below_alloc | apply pw_below_drewN | apply below_drew1) | exact HB.out)⟩⟩
        case round =>
          clear H'
          try clear c1
          try clear p2
          try clear c3
          try clear c3b0
          try clear c3b1
          try clear c13
          try clear c14
          try clear c14b0
          try clear p2
          obtain ⟨x7_2, x8_2, x9_2, x10_2, rfl, rfl, rfl, rfl, HA, HK2, HO_5, HB⟩ := hrel
          cases gk with
          | zero => exact absurd HA.out (by simp [mandrellaw20_MovesPlans.l0])
          | succ k2 =>
            have H := HA.out
            clear HA
            simp only [mandrellaw20_MovesPlans.l0] at H
            by_cases c15 : x10_2 < (l0.length : Int)
            · rw [if_pos c15] at H
              have c15b0 : decide (x10_2 < (l0.length : Int)) = true := decide_eq_true c15
              clear c15
              by_cases c16 : x7_2 = true
              · subst c16
                have H1 : (if 0 ≤ x10_2 then (if ((rd_T32 l0 x10_2).f0) = a1 then (if ((rd_T32 l0 x10_2).f0) = ((rd_T32 l0 x10_2).f1) then (mandrellaw20_MovesPlans.l0 k2 l0 a1 t199 t200 false x8_2 (mx (mx x9_2 ((rd_T32 l0 x10_2).f0)) ((rd_T32 l0 x10_2).f1)) (wrap64 (x10_2 + 1))) else (mandrellaw20_MovesPlans.l0 k2 l0 a1 t199 t200 false (wrap64 (x8_2 + 1)) (mx (mx x9_2 ((rd_T32 l0 x10_2).f0)) ((rd_T32 l0 x10_2).f1)) (wrap64 (x10_2 + 1)))) else (if ((rd_T32 l0 x10_2).f0) = ((rd_T32 l0 x10_2).f1) then (mandrellaw20_MovesPlans.l0 k2 l0 a1 t199 t200 (((rd_T32 l0 x10_2).f1) != a1) x8_2 (mx (mx x9_2 ((rd_T32 l0 x10_2).f0)) ((rd_T32 l0 x10_2).f1)) (wrap64 (x10_2 + 1))) else (mandrellaw20_MovesPlans.l0 k2 l0 a1 t199 t200 (((rd_T32 l0 x10_2).f1) != a1) (wrap64 (x8_2 + 1)) (mx (mx x9_2 ((rd_T32 l0 x10_2).f0)) ((rd_T32 l0 x10_2).f1)) (wrap64 (x10_2 + 1))))) else (none)) = some r := by rw [if_pos rfl] at H; exact H
                clear H
                have H := H1
                clear H1
                by_cases c17 : 0 ≤ x10_2
                · rw [if_pos c17] at H
                  have c17b0 : decide (0 ≤ x10_2) = true := decide_eq_true c17
                  clear c17
                  by_cases c18 : ((rd_T32 l0 x10_2).f0) = a1
                  · rw [if_pos c18] at H
                    have c18b0 : (((rd_T32 l0 x10_2).f0) == a1) = true := beq_iff_eq.mpr c18
                    have c18b1 : (((rd_T32 l0 x10_2).f0) != a1) = false := bne_eq_false_iff_eq.mpr c18
                    clear c18
                    by_cases c19 : ((rd_T32 l0 x10_2).f0) = ((rd_T32 l0 x10_2).f1)
                    · rw [if_pos c19] at H
                      have c19b0 : (((rd_T32 l0 x10_2).f0) == ((rd_T32 l0 x10_2).f1)) = true := beq_iff_eq.mpr c19
                      have c19b1 : (((rd_T32 l0 x10_2).f0) != ((rd_T32 l0 x10_2).f1)) = false := bne_eq_false_iff_eq.mpr c19
                      clear c19
                      obtain ⟨ji20, hji20⟩ : ∃ j_ : Int, (mx x9_2 ((rd_T32 l0 x10_2).f0)) = j_ := ⟨_, rfl⟩
                      replace H : (mandrellaw20_MovesPlans.l0 k2 l0 a1 t199 t200 false x8_2 (mx (ji20) ((rd_T32 l0 x10_2).f1)) (wrap64 (x10_2 + 1))) = some r := by first | (rw [hji20] at H; exact H) | (simp only [hji20] at H ⊢; exact H)
                      have hji20_ : (if x9_2 < ((rd_T32 l0 x10_2).f0) then ((rd_T32 l0 x10_2).f0) else x9_2) = ji20 := hji20
                      obtain ⟨ji21, hji21⟩ : ∃ j_ : Int, (mx (ji20) ((rd_T32 l0 x10_2).f1)) = j_ := ⟨_, rfl⟩
                      replace H : (mandrellaw20_MovesPlans.l0 k2 l0 a1 t199 t200 false x8_2 ji21 (wrap64 (x10_2 + 1))) = some r := by first | (rw [hji21] at H; exact H) | (simp only [hji21] at H ⊢; exact H)
                      have hji21_ : (if (ji20) < ((rd_T32 l0 x10_2).f1) then ((rd_T32 l0 x10_2).f1) else (ji20)) = ji21 := hji21
                      have H' := Aside0.mk H
                      clear H
                      have p204 : 0 ≤ (x10_2 : Int) := of_decide_eq_true (by first | (with_reducible assumption) | assumption)
                      have q204 : x10_2 < (l0.length : Int) := of_decide_eq_true (by first | (with_reducible assumption) | assumption)
                      obtain ⟨ad204, e204, hx204_0, hx204_1⟩ := at_T32 HR0.out x10_2 p204 q204
                      cases e204
                      replace hx204_0 := (HB.out.cell (World.block_lt_of_cell? w _ hx204_0)).trans hx204_0
                      replace hx204_1 := (HB.out.cell (World.block_lt_of_cell? w _ hx204_1)).trans hx204_1
                      replace p204 := eq_true p204
                      replace q204 := eq_true q204
                      have p205 : 0 ≤ (x10_2 : Int) := of_decide_eq_true (by first | (with_reducible assumption) | assumption)
                      have q205 : x10_2 < (l0.length : Int) := of_decide_eq_true (by first | (with_reducible assumption) | assumption)
                      obtain ⟨ad205, e205, hx205_0, hx205_1⟩ := at_T32 HR0.out x10_2 p205 q205
                      obtain rfl : ad204 = ad205 := (by injection e205)
                      replace hx205_0 := (HB.out.cell (World.block_lt_of_cell? w _ hx205_0)).trans hx205_0
                      replace hx205_1 := (HB.out.cell (World.block_lt_of_cell? w _ hx205_1)).trans hx205_1
                      replace p205 := eq_true p205
                      replace q205 := eq_true q205
                      have p206 : 0 ≤ (x10_2 : Int) := of_decide_eq_true (by first | (with_reducible assumption) | assumption)
                      have q206 : x10_2 < (l0.length : Int) := of_decide_eq_true (by first | (with_reducible assumption) | assumption)
                      obtain ⟨ad206, e206, hx206_0, hx206_1⟩ := at_T32 HR0.out x10_2 p206 q206
                      obtain rfl : ad204 = ad206 := (by injection e206)
                      replace hx206_0 := (HB.out.cell (World.block_lt_of_cell? w _ hx206_0)).trans hx206_0
                      replace hx206_1 := (HB.out.cell (World.block_lt_of_cell? w _ hx206_1)).trans hx206_1
                      replace p206 := eq_true p206
                      replace q206 := eq_true q206
                      have p207 : 0 ≤ (x10_2 : Int) := of_decide_eq_true (by first | (with_reducible assumption) | assumption)
                      have q207 : x10_2 < (l0.length : Int) := of_decide_eq_true (by first | (with_reducible assumption) | assumption)
                      obtain ⟨ad207, e207, hx207_0, hx207_1⟩ := at_T32 HR0.out x10_2 p207 q207
                      obtain rfl : ad204 = ad207 := (by injection e207)
                      replace hx207_0 := (HB.out.cell (World.block_lt_of_cell? w _ hx207_0)).trans hx207_0
                      replace hx207_1 := (HB.out.cell (World.block_lt_of_cell? w _ hx207_1)).trans hx207_1
                      replace p207 := eq_true p207
                      replace q207 := eq_true q207
                      have p208 : 0 ≤ (x10_2 : Int) := of_decide_eq_true (by first | (with_reducible assumption) | assumption)
                      have q208 : x10_2 < (l0.length : Int) := of_decide_eq_true (by first | (with_reducible assumption) | assumption)
                      obtain ⟨ad208, e208, hx208_0, hx208_1⟩ := at_T32 HR0.out x10_2 p208 q208
                      obtain rfl : ad204 = ad208 := (by injection e208)
                      replace hx208_0 := (HB.out.cell (World.block_lt_of_cell? w _ hx208_0)).trans hx208_0
                      replace hx208_1 := (HB.out.cell (World.block_lt_of_cell? w _ hx208_1)).trans hx208_1
                      replace p208 := eq_true p208
                      replace q208 := eq_true q208
                      go_wp2
                      repeat (go_quiet (fail); try go_wp2)
                      go_roundg k2
                      case measure => have := HJ7.out; have := HK2.out; omega
                      case rel => exact ⟨(false), (x8_2), (ji21), (wrap64 (x10_2 + 1)), (by first | rfl | (simp; done) | (simp [*]; done)), (by first | rfl | (simp; done) | (simp [*]; done)), (by first | rfl | (simp; done) | (simp only [← hji21] <;> (first | rfl | simp)) | (simp [*]; done)), (by first | rfl | (simp; done) | (simp [*]; done)), H', ⟨by have := HJ7.out; have := HK2.out; omega⟩, ⟨by (with_reducible repeat (first | apply Kd.R_alloc | apply Kd.R_drewN | apply Kd.R_drew)); exact HO_5.out⟩, ⟨by repeat (first | (with_reducible first | exact HB.out | apply below_alloc | apply pw_below_drewN | apply below_drew1) | exact HB.out)⟩⟩
                    · rw [if_neg c19] at H
                      have c19b0 : (((rd_T32 l0 x10_2).f0) == ((rd_T32 l0 x10_2).f1)) = false := beq_eq_false_iff_ne.mpr c19
                      have c19b1 : (((rd_T32 l0 x10_2).f0) != ((rd_T32 l0 x10_2).f1)) = true := bne_iff_ne.mpr c19
                      obtain ⟨ji22, hji22⟩ : ∃ j_ : Int, (mx x9_2 ((rd_T32 l0 x10_2).f0)) = j_ := ⟨_, rfl⟩
                      replace H : (mandrellaw20_MovesPlans.l0 k2 l0 a1 t199 t200 false (wrap64 (x8_2 + 1)) (mx (ji22) ((rd_T32 l0 x10_2).f1)) (wrap64 (x10_2 + 1))) = some r := by first | (rw [hji22] at H; exact H) | (simp only [hji22] at H ⊢; exact H)
                      have hji22_ : (if x9_2 < ((rd_T32 l0 x10_2).f0) then ((rd_T32 l0 x10_2).f0) else x9_2) = ji22 := hji22
                      obtain ⟨ji23, hji23⟩ : ∃ j_ : Int, (mx (ji22) ((rd_T32 l0 x10_2).f1)) = j_ := ⟨_, rfl⟩
                      replace H : (mandrellaw20_MovesPlans.l0 k2 l0 a1 t199 t200 false (wrap64 (x8_2 + 1)) ji23 (wrap64 (x10_2 + 1))) = some r := by first | (rw [hji23] at H; exact H) | (simp only [hji23] at H ⊢; exact H)
                      have hji23_ : (if (ji22) < ((rd_T32 l0 x10_2).f1) then ((rd_T32 l0 x10_2).f1) else (ji22)) = ji23 := hji23
                      have H' := Aside0.mk H
                      clear H
                      have p204 : 0 ≤ (x10_2 : Int) := of_decide_eq_true (by first | (with_reducible assumption) | assumption)
                      have q204 : x10_2 < (l0.length : Int) := of_decide_eq_true (by first | (with_reducible assumption) | assumption)
                      obtain ⟨ad204, e204, hx204_0, hx204_1⟩ := at_T32 HR0.out x10_2 p204 q204
                      cases e204
                      replace hx204_0 := (HB.out.cell (World.block_lt_of_cell? w _ hx204_0)).trans hx204_0
                      replace hx204_1 := (HB.out.cell (World.block_lt_of_cell? w _ hx204_1)).trans hx204_1
                      replace p204 := eq_true p204
                      replace q204 := eq_true q204
                      have p205 : 0 ≤ (x10_2 : Int) := of_decide_eq_true (by first | (with_reducible assumption) | assumption)
                      have q205 : x10_2 < (l0.length : Int) := of_decide_eq_true (by first | (with_reducible assumption) | assumption)
                      obtain ⟨ad205, e205, hx205_0, hx205_1⟩ := at_T32 HR0.out x10_2 p205 q205
                      obtain rfl : ad204 = ad205 := (by injection e205)
                      replace hx205_0 := (HB.out.cell (World.block_lt_of_cell? w _ hx205_0)).trans hx205_0
                      replace hx205_1 := (HB.out.cell (World.block_lt_of_cell? w _ hx205_1)).trans hx205_1
                      replace p205 := eq_true p205
                      replace q205 := eq_true q205
                      have p206 : 0 ≤ (x10_2 : Int) := of_decide_eq_true (by first | (with_reducible assumption) | assumption)
                      have q206 : x10_2 < (l0.length : Int) := of_decide_eq_true (by first | (with_reducible assumption) | assumption)
                      obtain ⟨ad206, e206, hx206_0, hx206_1⟩ := at_T32 HR0.out x10_2 p206 q206
                      obtain rfl : ad204 = ad206 := (by injection e206)
                      replace hx206_0 := (HB.out.cell (World.block_lt_of_cell? w _ hx206_0)).trans hx206_0
                      replace hx206_1 := (HB.out.cell (World.block_lt_of_cell? w _ hx206_1)).trans hx206_1
                      replace p206 := eq_true p206
                      replace q206 := eq_true q206
                      have p209 : 0 ≤ (x10_2 : Int) := of_decide_eq_true (by first | (with_reducible assumption) | assumption)
                      have q209 : x10_2 < (l0.length : Int) := of_decide_eq_true (by first | (with_reducible assumption) | assumption)
                      obtain ⟨ad209, e209, hx209_0, hx209_1⟩ := at_T32 HR0.out x10_2 p209 q209
                      obtain rfl : ad204 = ad209 := (by injection e209)
                      replace hx209_0 := (HB.out.cell (World.block_lt_of_cell? w _ hx209_0)).trans hx209_0
                      replace hx209_1 := (HB.out.cell (World.block_lt_of_cell? w _ hx209_1)).trans hx209_1
                      replace p209 := eq_true p209
                      replace q209 := eq_true q209
                      have p210 : 0 ≤ (x10_2 : Int) := of_decide_eq_true (by first | (with_reducible assumption) | assumption)
                      have q210 : x10_2 < (l0.length : Int) := of_decide_eq_true (by first | (with_reducible assumption) | assumption)
                      obtain ⟨ad210, e210, hx210_0, hx210_1⟩ := at_T32 HR0.out x10_2 p210 q210
                      obtain rfl : ad204 = ad210 := (by injection e210)
                      replace hx210_0 := (HB.out.cell (World.block_lt_of_cell? w _ hx210_0)).trans hx210_0
                      replace hx210_1 := (HB.out.cell (World.block_lt_of_cell? w _ hx210_1)).trans hx210_1
                      replace p210 := eq_true p210
                      replace q210 := eq_true q210
                      go_wp2
                      repeat (go_quiet (fail); try go_wp2)
                      go_roundg k2
                      case measure => have := HJ7.out; have := HK2.out; omega
                      case rel => exact ⟨(false), (wrap64 (x8_2 + 1)), (ji23), (wrap64 (x10_2 + 1)), (by first | rfl | (simp; done) | (simp [*]; done)), (by first | rfl | (simp; done) | (simp [*]; done)), (by first | rfl | (simp; done) | (simp only [← hji23] <;> (first | rfl | simp)) | (simp [*]; done)), (by first | rfl | (simp; done) | (simp [*]; done)), H', ⟨by have := HJ7.out; have := HK2.out; omega⟩, ⟨by (with_reducible repeat (first | apply Kd.R_alloc | apply Kd.R_drewN | apply Kd.R_drew)); exact HO_5.out⟩, ⟨by repeat (first | (with_reducible first | exact HB.out | apply below_alloc | apply pw_below_drewN | apply below_drew1) | exact HB.out)⟩⟩
                  · rw [if_neg c18] at H
                    have c18b0 : (((rd_T32 l0 x10_2).f0) == a1) = false := beq_eq_false_iff_ne.mpr c18
                    have c18b1 : (((rd_T32 l0 x10_2).f0) != a1) = true := bne_iff_ne.mpr c18
                    by_cases c24 : ((rd_T32 l0 x10_2).f0) = ((rd_T32 l0 x10_2).f1)
                    · rw [if_pos c24] at H
                      have c24b0 : (((rd_T32 l0 x10_2).f0) == ((rd_T32 l0 x10_2).f1)) = true := beq_iff_eq.mpr c24
                      have c24b1 : (((rd_T32 l0 x10_2).f0) != ((rd_T32 l0 x10_2).f1)) = false := bne_eq_false_iff_eq.mpr c24
                      clear c24
                      obtain ⟨ji25, hji25⟩ : ∃ j_ : Int, (mx x9_2 ((rd_T32 l0 x10_2).f0)) = j_ := ⟨_, rfl⟩
                      replace H : (mandrellaw20_MovesPlans.l0 k2 l0 a1 t199 t200 (((rd_T32 l0 x10_2).f1) != a1) x8_2 (mx (ji25) ((rd_T32 l0 x10_2).f1)) (wrap64 (x10_2 + 1))) = some r := by first | (rw [hji25] at H; exact H) | (simp only [hji25] at H ⊢; exact H)
                      have hji25_ : (if x9_2 < ((rd_T32 l0 x10_2).f0) then ((rd_T32 l0 x10_2).f0) else x9_2) = ji25 := hji25
                      obtain ⟨ji26, hji26⟩ : ∃ j_ : Int, (mx (ji25) ((rd_T32 l0 x10_2).f1)) = j_ := ⟨_, rfl⟩
                      replace H : (mandrellaw20_MovesPlans.l0 k2 l0 a1 t199 t200 (((rd_T32 l0 x10_2).f1) != a1) x8_2 ji26 (wrap64 (x10_2 + 1))) = some r := by first | (rw [hji26] at H; exact H) | (simp only [hji26] at H ⊢; exact H)
                      have hji26_ : (if (ji25) < ((rd_T32 l0 x10_2).f1) then ((rd_T32 l0 x10_2).f1) else (ji25)) = ji26 := hji26
                      have H' := Aside0.mk H
                      clear H
                      have p204 : 0 ≤ (x10_2 : Int) := of_decide_eq_true (by first | (with_reducible assumption) | assumption)
                      have q204 : x10_2 < (l0.length : Int) := of_decide_eq_true (by first | (with_reducible assumption) | assumption)
                      obtain ⟨ad204, e204, hx204_0, hx204_1⟩ := at_T32 HR0.out x10_2 p204 q204
                      cases e204
                      replace hx204_0 := (HB.out.cell (World.block_lt_of_cell? w _ hx204_0)).trans hx204_0
                      replace hx204_1 := (HB.out.cell (World.block_lt_of_cell? w _ hx204_1)).trans hx204_1
                      replace p204 := eq_true p204
                      replace q204 := eq_true q204
                      have p211 : 0 ≤ (x10_2 : Int) := of_decide_eq_true (by first | (with_reducible assumption) | assumption)
                      have q211 : x10_2 < (l0.length : Int) := of_decide_eq_true (by first | (with_reducible assumption) | assumption)
                      obtain ⟨ad211, e211, hx211_0, hx211_1⟩ := at_T32 HR0.out x10_2 p211 q211
                      obtain rfl : ad204 = ad211 := (by injection e211)
                      replace hx211_0 := (HB.out.cell (World.block_lt_of_cell? w _ hx211_0)).trans hx211_0
                      replace hx211_1 := (HB.out.cell (World.block_lt_of_cell? w _ hx211_1)).trans hx211_1
                      replace p211 := eq_true p211
                      replace q211 := eq_true q211
                      have p212 : 0 ≤ (x10_2 : Int) := of_decide_eq_true (by first | (with_reducible assumption) | assumption)
                      have q212 : x10_2 < (l0.length : Int) := of_decide_eq_true (by first | (with_reducible assumption) | assumption)
                      obtain ⟨ad212, e212, hx212_0, hx212_1⟩ := at_T32 HR0.out x10_2 p212 q212
                      obtain rfl : ad204 = ad212 := (by injection e212)
                      replace hx212_0 := (HB.out.cell (World.block_lt_of_cell? w _ hx212_0)).trans hx212_0
                      replace hx212_1 := (HB.out.cell (World.block_lt_of_cell? w _ hx212_1)).trans hx212_1
                      replace p212 := eq_true p212
                      replace q212 := eq_true q212
                      have p213 : 0 ≤ (x10_2 : Int) := of_decide_eq_true (by first | (with_reducible assumption) | assumption)
                      have q213 : x10_2 < (l0.length : Int) := of_decide_eq_true (by first | (with_reducible assumption) | assumption)
                      obtain ⟨ad213, e213, hx213_0, hx213_1⟩ := at_T32 HR0.out x10_2 p213 q213
                      obtain rfl : ad204 = ad213 := (by injection e213)
                      replace hx213_0 := (HB.out.cell (World.block_lt_of_cell? w _ hx213_0)).trans hx213_0
                      replace hx213_1 := (HB.out.cell (World.block_lt_of_cell? w _ hx213_1)).trans hx213_1
                      replace p213 := eq_true p213
                      replace q213 := eq_true q213
                      have p214 : 0 ≤ (x10_2 : Int) := of_decide_eq_true (by first | (with_reducible assumption) | assumption)
                      have q214 : x10_2 < (l0.length : Int) := of_decide_eq_true (by first | (with_reducible assumption) | assumption)
                      obtain ⟨ad214, e214, hx214_0, hx214_1⟩ := at_T32 HR0.out x10_2 p214 q214
                      obtain rfl : ad204 = ad214 := (by injection e214)
                      replace hx214_0 := (HB.out.cell (World.block_lt_of_cell? w _ hx214_0)).trans hx214_0
                      replace hx214_1 := (HB.out.cell (World.block_lt_of_cell? w _ hx214_1)).trans hx214_1
                      replace p214 := eq_true p214
                      replace q214 := eq_true q214
                      have p215 : 0 ≤ (x10_2 : Int) := of_decide_eq_true (by first | (with_reducible assumption) | assumption)
                      have q215 : x10_2 < (l0.length : Int) := of_decide_eq_true (by first | (with_reducible assumption) | assumption)
                      obtain ⟨ad215, e215, hx215_0, hx215_1⟩ := at_T32 HR0.out x10_2 p215 q215
                      obtain rfl : ad204 = ad215 := (by injection e215)
                      replace hx215_0 := (HB.out.cell (World.block_lt_of_cell? w _ hx215_0)).trans hx215_0
                      replace hx215_1 := (HB.out.cell (World.block_lt_of_cell? w _ hx215_1)).trans hx215_1
                      replace p215 := eq_true p215
                      replace q215 := eq_true q215
                      go_wp2
                      repeat (go_quiet (fail); try go_wp2)
                      go_roundg k2
                      case measure => have := HJ7.out; have := HK2.out; omega
                      case rel => exact ⟨((((rd_T32 l0 x10_2).f1) != a1)), (x8_2), (ji26), (wrap64 (x10_2 + 1)), (by first | rfl | (simp; done) | (simp [*]; done)), (by first | rfl | (simp; done) | (simp [*]; done)), (by first | rfl | (simp; done) | (simp only [← hji26] <;> (first | rfl | simp)) | (simp [*]; done)), (by first | rfl | (simp; done) | (simp [*]; done)), H', ⟨by have := HJ7.out; have := HK2.out; omega⟩, ⟨by (with_reducible repeat (first | apply Kd.R_alloc | apply Kd.R_drewN | apply Kd.R_drew)); exact HO_5.out⟩, ⟨by repeat (first | (with_reducible first | exact HB.out | apply below_alloc | apply pw_below_drewN | apply below_drew1) | exact HB.out)⟩⟩
                    · rw [if_neg c24] at H
                      have c24b0 : (((rd_T32 l0 x10_2).f0) == ((rd_T32 l0 x10_2).f1)) = false := beq_eq_false_iff_ne.mpr c24
                      have c24b1 : (((rd_T32 l0 x10_2).f0) != ((rd_T32 l0 x10_2).f1)) = true := bne_iff_ne.mpr c24
                      obtain ⟨ji27, hji27⟩ : ∃ j_ : Int, (mx x9_2 ((rd_T32 l0 x10_2).f0)) = j_ := ⟨_, rfl⟩
                      replace H : (mandrellaw20_MovesPlans.l0 k2 l0 a1 t199 t200 (((rd_T32 l0 x10_2).f1) != a1) (wrap64 (x8_2 + 1)) (mx (ji27) ((rd_T32 l0 x10_2).f1)) (wrap64 (x10_2 + 1))) = some r := by first | (rw [hji27] at H; exact H) | (simp only [hji27] at H ⊢; exact H)
                      have hji27_ : (if x9_2 < ((rd_T32 l0 x10_2).f0) then ((rd_T32 l0 x10_2).f0) else x9_2) = ji27 := hji27
                      obtain ⟨ji28, hji28⟩ : ∃ j_ : Int, (mx (ji27) ((rd_T32 l0 x10_2).f1)) = j_ := ⟨_, rfl⟩
                      replace H : (mandrellaw20_MovesPlans.l0 k2 l0 a1 t199 t200 (((rd_T32 l0 x10_2).f1) != a1) (wrap64 (x8_2 + 1)) ji28 (wrap64 (x10_2 + 1))) = some r := by first | (rw [hji28] at H; exact H) | (simp only [hji28] at H ⊢; exact H)
                      have hji28_ : (if (ji27) < ((rd_T32 l0 x10_2).f1) then ((rd_T32 l0 x10_2).f1) else (ji27)) = ji28 := hji28
                      have H' := Aside0.mk H
                      clear H
                      have p204 : 0 ≤ (x10_2 : Int) := of_decide_eq_true (by first | (with_reducible assumption) | assumption)
                      have q204 : x10_2 < (l0.length : Int) := of_decide_eq_true (by first | (with_reducible assumption) | assumption)
                      obtain ⟨ad204, e204, hx204_0, hx204_1⟩ := at_T32 HR0.out x10_2 p204 q204
                      cases e204
                      replace hx204_0 := (HB.out.cell (World.block_lt_of_cell? w _ hx204_0)).trans hx204_0
                      replace hx204_1 := (HB.out.cell (World.block_lt_of_cell? w _ hx204_1)).trans hx204_1
                      replace p204 := eq_true p204
                      replace q204 := eq_true q204
                      have p211 : 0 ≤ (x10_2 : Int) := of_decide_eq_true (by first | (with_reducible assumption) | assumption)
                      have q211 : x10_2 < (l0.length : Int) := of_decide_eq_true (by first | (with_reducible assumption) | assumption)
                      obtain ⟨ad211, e211, hx211_0, hx211_1⟩ := at_T32 HR0.out x10_2 p211 q211
                      obtain rfl : ad204 = ad211 := (by injection e211)
                      replace hx211_0 := (HB.out.cell (World.block_lt_of_cell? w _ hx211_0)).trans hx211_0
                      replace hx211_1 := (HB.out.cell (World.block_lt_of_cell? w _ hx211_1)).trans hx211_1
                      replace p211 := eq_true p211
                      replace q211 := eq_true q211
                      have p212 : 0 ≤ (x10_2 : Int) := of_decide_eq_true (by first | (with_reducible assumption) | assumption)
                      have q212 : x10_2 < (l0.length : Int) := of_decide_eq_true (by first | (with_reducible assumption) | assumption)
                      obtain ⟨ad212, e212, hx212_0, hx212_1⟩ := at_T32 HR0.out x10_2 p212 q212
                      obtain rfl : ad204 = ad212 := (by injection e212)
                      replace hx212_0 := (HB.out.cell (World.block_lt_of_cell? w _ hx212_0)).trans hx212_0
                      replace hx212_1 := (HB.out.cell (World.block_lt_of_cell? w _ hx212_1)).trans hx212_1
                      replace p212 := eq_true p212
                      replace q212 := eq_true q212
                      have p213 : 0 ≤ (x10_2 : Int) := of_decide_eq_true (by first | (with_reducible assumption) | assumption)
                      have q213 : x10_2 < (l0.length : Int) := of_decide_eq_true (by first | (with_reducible assumption) | assumption)
                      obtain ⟨ad213, e213, hx213_0, hx213_1⟩ := at_T32 HR0.out x10_2 p213 q213
                      obtain rfl : ad204 = ad213 := (by injection e213)
                      replace hx213_0 := (HB.out.cell (World.block_lt_of_cell? w _ hx213_0)).trans hx213_0
                      replace hx213_1 := (HB.out.cell (World.block_lt_of_cell? w _ hx213_1)).trans hx213_1
                      replace p213 := eq_true p213
                      replace q213 := eq_true q213
                      have p216 : 0 ≤ (x10_2 : Int) := of_decide_eq_true (by first | (with_reducible assumption) | assumption)
                      have q216 : x10_2 < (l0.length : Int) := of_decide_eq_true (by first | (with_reducible assumption) | assumption)
                      obtain ⟨ad216, e216, hx216_0, hx216_1⟩ := at_T32 HR0.out x10_2 p216 q216
                      obtain rfl : ad204 = ad216 := (by injection e216)
                      replace hx216_0 := (HB.out.cell (World.block_lt_of_cell? w _ hx216_0)).trans hx216_0
                      replace hx216_1 := (HB.out.cell (World.block_lt_of_cell? w _ hx216_1)).trans hx216_1
                      replace p216 := eq_true p216
                      replace q216 := eq_true q216
                      have p217 : 0 ≤ (x10_2 : Int) := of_decide_eq_true (by first | (with_reducible assumption) | assumption)
                      have q217 : x10_2 < (l0.length : Int) := of_decide_eq_true (by first | (with_reducible assumption) | assumption)
                      obtain ⟨ad217, e217, hx217_0, hx217_1⟩ := at_T32 HR0.out x10_2 p217 q217
                      obtain rfl : ad204 = ad217 := (by injection e217)
                      replace hx217_0 := (HB.out.cell (World.block_lt_of_cell? w _ hx217_0)).trans hx217_0
                      replace hx217_1 := (HB.out.cell (World.block_lt_of_cell? w _ hx217_1)).trans hx217_1
                      replace p217 := eq_true p217
                      replace q217 := eq_true q217
                      go_wp2
                      repeat (go_quiet (fail); try go_wp2)
                      go_roundg k2
                      case measure => have := HJ7.out; have := HK2.out; omega
                      case rel => exact ⟨((((rd_T32 l0 x10_2).f1) != a1)), (wrap64 (x8_2 + 1)), (ji28), (wrap64 (x10_2 + 1)), (by first | rfl | (simp; done) | (simp [*]; done)), (by first | rfl | (simp; done) | (simp [*]; done)), (by first | rfl | (simp; done) | (simp only [← hji28] <;> (first | rfl | simp)) | (simp [*]; done)), (by first | rfl | (simp; done) | (simp [*]; done)), H', ⟨by have := HJ7.out; have := HK2.out; omega⟩, ⟨by (with_reducible repeat (first | apply Kd.R_alloc | apply Kd.R_drewN | apply Kd.R_drew)); exact HO_5.out⟩, ⟨by repeat (first | (with_reducible first | exact HB.out | apply below_alloc | apply pw_below_drewN | apply below_drew1) | exact HB.out)⟩⟩
                · rw [if_neg c17] at H
                  exact absurd H (by simp)
              · replace c16 := Bool.eq_false_iff.mpr c16
                subst c16
                have H1 : (if 0 ≤ x10_2 then (if ((rd_T32 l0 x10_2).f0) = ((rd_T32 l0 x10_2).f1) then (mandrellaw20_MovesPlans.l0 k2 l0 a1 t199 t200 false x8_2 (mx (mx x9_2 ((rd_T32 l0 x10_2).f0)) ((rd_T32 l0 x10_2).f1)) (wrap64 (x10_2 + 1))) else (mandrellaw20_MovesPlans.l0 k2 l0 a1 t199 t200 false (wrap64 (x8_2 + 1)) (mx (mx x9_2 ((rd_T32 l0 x10_2).f0)) ((rd_T32 l0 x10_2).f1)) (wrap64 (x10_2 + 1)))) else (none)) = some r := by rw [if_neg (show ¬ (false = true) by decide)] at H; exact H
                clear H
                have H := H1
                clear H1
                by_cases c29 : 0 ≤ x10_2
                · rw [if_pos c29] at H
                  have c29b0 : decide (0 ≤ x10_2) = true := decide_eq_true c29
                  clear c29
                  by_cases c30 : ((rd_T32 l0 x10_2).f0) = ((rd_T32 l0 x10_2).f1)
                  · rw [if_pos c30] at H
                    have c30b0 : (((rd_T32 l0 x10_2).f0) == ((rd_T32 l0 x10_2).f1)) = true := beq_iff_eq.mpr c30
                    have c30b1 : (((rd_T32 l0 x10_2).f0) != ((rd_T32 l0 x10_2).f1)) = false := bne_eq_false_iff_eq.mpr c30
                    clear c30
                    obtain ⟨ji31, hji31⟩ : ∃ j_ : Int, (mx x9_2 ((rd_T32 l0 x10_2).f0)) = j_ := ⟨_, rfl⟩
                    replace H : (mandrellaw20_MovesPlans.l0 k2 l0 a1 t199 t200 false x8_2 (mx (ji31) ((rd_T32 l0 x10_2).f1)) (wrap64 (x10_2 + 1))) = some r := by first | (rw [hji31] at H; exact H) | (simp only [hji31] at H ⊢; exact H)
                    have hji31_ : (if x9_2 < ((rd_T32 l0 x10_2).f0) then ((rd_T32 l0 x10_2).f0) else x9_2) = ji31 := hji31
                    obtain ⟨ji32, hji32⟩ : ∃ j_ : Int, (mx (ji31) ((rd_T32 l0 x10_2).f1)) = j_ := ⟨_, rfl⟩
                    replace H : (mandrellaw20_MovesPlans.l0 k2 l0 a1 t199 t200 false x8_2 ji32 (wrap64 (x10_2 + 1))) = some r := by first | (rw [hji32] at H; exact H) | (simp only [hji32] at H ⊢; exact H)
                    have hji32_ : (if (ji31) < ((rd_T32 l0 x10_2).f1) then ((rd_T32 l0 x10_2).f1) else (ji31)) = ji32 := hji32
                    have H' := Aside0.mk H
                    clear H
                    have p218 : 0 ≤ (x10_2 : Int) := of_decide_eq_true (by first | (with_reducible assumption) | assumption)
                    have q218 : x10_2 < (l0.length : Int) := of_decide_eq_true (by first | (with_reducible assumption) | assumption)
                    obtain ⟨ad218, e218, hx218_0, hx218_1⟩ := at_T32 HR0.out x10_2 p218 q218
                    cases e218
                    replace hx218_0 := (HB.out.cell (World.block_lt_of_cell? w _ hx218_0)).trans hx218_0
                    replace hx218_1 := (HB.out.cell (World.block_lt_of_cell? w _ hx218_1)).trans hx218_1
                    replace p218 := eq_true p218
                    replace q218 := eq_true q218
                    have p219 : 0 ≤ (x10_2 : Int) := of_decide_eq_true (by first | (with_reducible assumption) | assumption)
                    have q219 : x10_2 < (l0.length : Int) := of_decide_eq_true (by first | (with_reducible assumption) | assumption)
                    obtain ⟨ad219, e219, hx219_0, hx219_1⟩ := at_T32 HR0.out x10_2 p219 q219
                    obtain rfl : ad218 = ad219 := (by injection e219)
                    replace hx219_0 := (HB.out.cell (World.block_lt_of_cell? w _ hx219_0)).trans hx219_0
                    replace hx219_1 := (HB.out.cell (World.block_lt_of_cell? w _ hx219_1)).trans hx219_1
                    replace p219 := eq_true p219
                    replace q219 := eq_true q219
                    have p220 : 0 ≤ (x10_2 : Int) := of_decide_eq_true (by first | (with_reducible assumption) | assumption)
                    have q220 : x10_2 < (l0.length : Int) := of_decide_eq_true (by first | (with_reducible assumption) | assumption)
                    obtain ⟨ad220, e220, hx220_0, hx220_1⟩ := at_T32 HR0.out x10_2 p220 q220
                    obtain rfl : ad218 = ad220 := (by injection e220)
                    replace hx220_0 := (HB.out.cell (World.block_lt_of_cell? w _ hx220_0)).trans hx220_0
                    replace hx220_1 := (HB.out.cell (World.block_lt_of_cell? w _ hx220_1)).trans hx220_1
                    replace p220 := eq_true p220
                    replace q220 := eq_true q220
                    have p221 : 0 ≤ (x10_2 : Int) := of_decide_eq_true (by first | (with_reducible assumption) | assumption)
                    have q221 : x10_2 < (l0.length : Int) := of_decide_eq_true (by first | (with_reducible assumption) | assumption)
                    obtain ⟨ad221, e221, hx221_0, hx221_1⟩ := at_T32 HR0.out x10_2 p221 q221
                    obtain rfl : ad218 = ad221 := (by injection e221)
                    replace hx221_0 := (HB.out.cell (World.block_lt_of_cell? w _ hx221_0)).trans hx221_0
                    replace hx221_1 := (HB.out.cell (World.block_lt_of_cell? w _ hx221_1)).trans hx221_1
                    replace p221 := eq_true p221
                    replace q221 := eq_true q221
                    go_wp2
                    repeat (go_quiet (fail); try go_wp2)
                    go_roundg k2
                    case measure => have := HJ7.out; have := HK2.out; omega
                    case rel => exact ⟨(false), (x8_2), (ji32), (wrap64 (x10_2 + 1)), (by first | rfl | (simp; done) | (simp [*]; done)), (by first | rfl | (simp; done) | (simp [*]; done)), (by first | rfl | (simp; done) | (simp only [← hji32] <;> (first | rfl | simp)) | (simp [*]; done)), (by first | rfl | (simp; done) | (simp [*]; done)), H', ⟨by have := HJ7.out; have := HK2.out; omega⟩, ⟨by (with_reducible repeat (first | apply Kd.R_alloc | apply Kd.R_drewN | apply Kd.R_drew)); exact HO_5.out⟩, ⟨by repeat (first | (with_reducible first | exact HB.out | apply below_alloc | apply pw_below_drewN | apply below_drew1) | exact HB.out)⟩⟩
                  · rw [if_neg c30] at H
                    have c30b0 : (((rd_T32 l0 x10_2).f0) == ((rd_T32 l0 x10_2).f1)) = false := beq_eq_false_iff_ne.mpr c30
                    have c30b1 : (((rd_T32 l0 x10_2).f0) != ((rd_T32 l0 x10_2).f1)) = true := bne_iff_ne.mpr c30
                    obtain ⟨ji33, hji33⟩ : ∃ j_ : Int, (mx x9_2 ((rd_T32 l0 x10_2).f0)) = j_ := ⟨_, rfl⟩
                    replace H : (mandrellaw20_MovesPlans.l0 k2 l0 a1 t199 t200 false (wrap64 (x8_2 + 1)) (mx (ji33) ((rd_T32 l0 x10_2).f1)) (wrap64 (x10_2 + 1))) = some r := by first | (rw [hji33] at H; exact H) | (simp only [hji33] at H ⊢; exact H)
                    have hji33_ : (if x9_2 < ((rd_T32 l0 x10_2).f0) then ((rd_T32 l0 x10_2).f0) else x9_2) = ji33 := hji33
                    obtain ⟨ji34, hji34⟩ : ∃ j_ : Int, (mx (ji33) ((rd_T32 l0 x10_2).f1)) = j_ := ⟨_, rfl⟩
                    replace H : (mandrellaw20_MovesPlans.l0 k2 l0 a1 t199 t200 false (wrap64 (x8_2 + 1)) ji34 (wrap64 (x10_2 + 1))) = some r := by first | (rw [hji34] at H; exact H) | (simp only [hji34] at H ⊢; exact H)
                    have hji34_ : (if (ji33) < ((rd_T32 l0 x10_2).f1) then ((rd_T32 l0 x10_2).f1) else (ji33)) = ji34 := hji34
                    have H' := Aside0.mk H
                    clear H
                    have p218 : 0 ≤ (x10_2 : Int) := of_decide_eq_true (by first | (with_reducible assumption) | assumption)
                    have q218 : x10_2 < (l0.length : Int) := of_decide_eq_true (by first | (with_reducible assumption) | assumption)
                    obtain ⟨ad218, e218, hx218_0, hx218_1⟩ := at_T32 HR0.out x10_2 p218 q218
                    cases e218
                    replace hx218_0 := (HB.out.cell (World.block_lt_of_cell? w _ hx218_0)).trans hx218_0
                    replace hx218_1 := (HB.out.cell (World.block_lt_of_cell? w _ hx218_1)).trans hx218_1
                    replace p218 := eq_true p218
                    replace q218 := eq_true q218
                    have p219 : 0 ≤ (x10_2 : Int) := of_decide_eq_true (by first | (with_reducible assumption) | assumption)
                    have q219 : x10_2 < (l0.length : Int) := of_decide_eq_true (by first | (with_reducible assumption) | assumption)
                    obtain ⟨ad219, e219, hx219_0, hx219_1⟩ := at_T32 HR0.out x10_2 p219 q219
                    obtain rfl : ad218 = ad219 := (by injection e219)
                    replace hx219_0 := (HB.out.cell (World.block_lt_of_cell? w _ hx219_0)).trans hx219_0
                    replace hx219_1 := (HB.out.cell (World.block_lt_of_cell? w _ hx219_1)).trans hx219_1
                    replace p219 := eq_true p219
                    replace q219 := eq_true q219
                    have p222 : 0 ≤ (x10_2 : Int) := of_decide_eq_true (by first | (with_reducible assumption) | assumption)
                    have q222 : x10_2 < (l0.length : Int) := of_decide_eq_true (by first | (with_reducible assumption) | assumption)
                    obtain ⟨ad222, e222, hx222_0, hx222_1⟩ := at_T32 HR0.out x10_2 p222 q222
                    obtain rfl : ad218 = ad222 := (by injection e222)
                    replace hx222_0 := (HB.out.cell (World.block_lt_of_cell? w _ hx222_0)).trans hx222_0
                    replace hx222_1 := (HB.out.cell (World.block_lt_of_cell? w _ hx222_1)).trans hx222_1
                    replace p222 := eq_true p222
                    replace q222 := eq_true q222
                    have p223 : 0 ≤ (x10_2 : Int) := of_decide_eq_true (by first | (with_reducible assumption) | assumption)
                    have q223 : x10_2 < (l0.length : Int) := of_decide_eq_true (by first | (with_reducible assumption) | assumption)
                    obtain ⟨ad223, e223, hx223_0, hx223_1⟩ := at_T32 HR0.out x10_2 p223 q223
                    obtain rfl : ad218 = ad223 := (by injection e223)
                    replace hx223_0 := (HB.out.cell (World.block_lt_of_cell? w _ hx223_0)).trans hx223_0
                    replace hx223_1 := (HB.out.cell (World.block_lt_of_cell? w _ hx223_1)).trans hx223_1
                    replace p223 := eq_true p223
                    replace q223 := eq_true q223
                    go_wp2
                    repeat (go_quiet (fail); try go_wp2)
                    go_roundg k2
                    case measure => have := HJ7.out; have := HK2.out; omega
                    case rel => exact ⟨(false), (wrap64 (x8_2 + 1)), (ji34), (wrap64 (x10_2 + 1)), (by first | rfl | (simp; done) | (simp [*]; done)), (by first | rfl | (simp; done) | (simp [*]; done)), (by first | rfl | (simp; done) | (simp only [← hji34] <;> (first | rfl | simp)) | (simp [*]; done)), (by first | rfl | (simp; done) | (simp [*]; done)), H', ⟨by have := HJ7.out; have := HK2.out; omega⟩, ⟨by (with_reducible repeat (first | apply Kd.R_alloc | apply Kd.R_drewN | apply Kd.R_drew)); exact HO_5.out⟩, ⟨by repeat (first | (with_reducible first | exact HB.out | apply below_alloc | apply pw_below_drewN | apply below_drew1) | exact HB.out)⟩⟩
                · rw [if_neg c29] at H
                  exact absurd H (by simp)
            · rw [if_neg c15] at H
              have c15b0 : decide (x10_2 < (l0.length : Int)) = false := decide_eq_false c15
              clear c15
              by_cases c35 : x7_2 = true
              · subst c35
                have H1 : (if t200.isNone = true then ((mandrelref20_Rings.f k2 l0).bind fun t227 => (mandrellaw20_MovesPlans.j2 k2 l0 a1 t199 x9_2 ((t199.length : Int) != (wrap64 (x8_2 + (t227.length : Int)))))) else (mandrellaw20_MovesPlans.j2 k2 l0 a1 t199 x9_2 true)) = some r := by rw [if_pos rfl] at H; exact H
                clear H
                have H := H1
                clear H1
                have HC36 := Aside0.mk H
                clear H
                go_upto_region 15 with (fail)
                repeat (go_quiet (fail); go_upto_region 15 with (fail))
                go_cut [112] (fun v112 wc => ∃ (kq : Nat) (x112_35 : Bool), v112 = .bool x112_35 ∧ Aside0 (mandrellaw20_MovesPlans.j2 kq l0 a1 t199 x9_2 x112_35 = some r) ∧ Aside0 (kq ≤ k2) ∧ Aside0 (Kd.R k46 46 wc w.heap.size (fun _ => True) v201 t199) ∧ Aside0 (Below w.heap.size w wc))
                case first =>
                  have H := HC36.out
                  clear HC36
                  rcases t200 with _ | q226
                  · have H1 : ((mandrelref20_Rings.f k2 l0).bind fun t227 => (mandrellaw20_MovesPlans.j2 k2 l0 a1 t199 x9_2 ((t199.length : Int) != (wrap64 (x8_2 + (t227.length : Int)))))) = some r := by rw [if_pos (show (none : Option Int).isNone = true by rfl)] at H; exact H
                    clear H
                    have H := H1
                    clear H1
                    try simp only [errW_none, errW_some]
                    replace H := Option.bind_eq_some_iff.mp H
                    obtain ⟨t227, A370, H⟩ := H
                    replace H : (mandrellaw20_MovesPlans.j2 k2 l0 a1 t199 x9_2 ((t199.length : Int) != (wrap64 (x8_2 + (t227.length : Int))))) = some r := H
                    have A37 := Aside0.mk A370
                    clear A370
                    have H' := Aside0.mk H
                    clear H
                    obtain ⟨Ao38, co38, eo38⟩ := Kd.R_slice HO_5.out
                    subst eo38
                    go_wp2_with (first | (go_at_call 11; (with_reducible refine (mandrelref20_Rings.calls k2 _ _ l0 t227 _ ?side1 ?side2 A37.out).mono ?_); (case side1 => repeat (first | exact (Kd.C_below HR0.out HB.out) | (with_reducible refine Kd.C_alloc ?_ _) | (with_reducible refine Kd.C_drewN ?_ _) | (with_reducible refine Kd.C_drew ?_))); (case side2 => exact HC0.out); rintro e w39 ⟨v228, rfl, ho0, hb⟩; have n0_ := Aside0.mk (Kd.R_below (by (with_reducible repeat (first | apply Kd.R_alloc | apply Kd.R_drewN | apply Kd.R_drew)); exact HO_5.out) hb); have n1_ := Aside0.mk (Kd.S_lower ho0 (below_size (by repeat (first | (with_reducible first | exact HB.out | apply below_alloc | apply pw_below_drewN | apply below_drew1) | exact HB.out)))); have n2_ := Aside0.mk (below_step (by repeat (first | (with_reducible first | exact HB.out | apply below_alloc | apply pw_below_drewN | apply below_drew1) | exact HB.out)) hb); clear HO_5; clear HB; have HO_5 := n0_; have HO229 := n1_; have HB := n2_; clear n0_ n1_ n2_; (try clear hb); (try clear hb2); (try clear hk); (try clear hi); (try clear ho0); obtain ⟨Ao40, co40, eo40⟩ := Kd.S_slice HO229.out; subst eo40))
                    repeat (go_quiet (first | (go_at_call 11; (with_reducible refine (mandrelref20_Rings.calls k2 _ _ l0 t227 _ ?side1 ?side2 A37.out).mono ?_); (case side1 => repeat (first | exact (Kd.C_below HR0.out HB.out) | (with_reducible refine Kd.C_alloc ?_ _) | (with_reducible refine Kd.C_drewN ?_ _) | (with_reducible refine Kd.C_drew ?_))); (case side2 => exact HC0.out); rintro e w39 ⟨v228, rfl, ho0, hb⟩; have n0_ := Aside0.mk (Kd.R_below (by (with_reducible repeat (first | apply Kd.R_alloc | apply Kd.R_drewN | apply Kd.R_drew)); exact HO_5.out) hb); have n1_ := Aside0.mk (Kd.S_lower ho0 (below_size (by repeat (first | (with_reducible first | exact HB.out | apply below_alloc | apply pw_below_drewN | apply below_drew1) | exact HB.out)))); have n2_ := Aside0.mk (below_step (by repeat (first | (with_reducible first | exact HB.out | apply below_alloc | apply pw_below_drewN | apply below_drew1) | exact HB.out)) hb); clear HO_5; clear HB; have HO_5 := n0_; have HO229 := n1_; have HB := n2_; clear n0_ n1_ n2_; (try clear hb); (try clear hb2); (try clear hk); (try clear hi); (try clear ho0); obtain ⟨Ao40, co40, eo40⟩ := Kd.S_slice HO229.out; subst eo40)); try go_wp2_with (first | (go_at_call 11; (with_reducible refine (mandrelref20_Rings.calls k2 _ _ l0 t227 _ ?side1 ?side2 A37.out).mono ?_); (case side1 => repeat (first | exact (Kd.C_below HR0.out HB.out) | (with_reducible refine Kd.C_alloc ?_ _) | (with_reducible refine Kd.C_drewN ?_ _) | (with_reducible refine Kd.C_drew ?_))); (case side2 => exact HC0.out); rintro e w39 ⟨v228, rfl, ho0, hb⟩; have n0_ := Aside0.mk (Kd.R_below (by (with_reducible repeat (first | apply Kd.R_alloc | apply Kd.R_drewN | apply Kd.R_drew)); exact HO_5.out) hb); have n1_ := Aside0.mk (Kd.S_lower ho0 (below_size (by repeat (first | (with_reducible first | exact HB.out | apply below_alloc | apply pw_below_drewN | apply below_drew1) | exact HB.out)))); have n2_ := Aside0.mk (below_step (by repeat (first | (with_reducible first | exact HB.out | apply below_alloc | apply pw_below_drewN | apply below_drew1) | exact HB.out)) hb); clear HO_5; clear HB; have HO_5 := n0_; have HO229 := n1_; have HB := n2_; clear n0_ n1_ n2_; (try clear hb); (try clear hb2); (try clear hk); (try clear hi); (try clear ho0); obtain ⟨Ao40, co40, eo40⟩ := Kd.S_slice HO229.out; subst eo40)))
                    go_meet
                    case rel => exact ⟨_, (((t199.length : Int) != (wrap64 (x8_2 + (t227.length : Int))))), (by first | rfl | (simp; done) | (simp [*]; done)), H', ⟨by have := HJ7.out; have := HK2.out; first | omega | exact Nat.le_refl _⟩, ⟨by (with_reducible repeat (first | apply Kd.R_alloc | apply Kd.R_drewN | apply Kd.R_drew)); exact HO_5.out⟩, ⟨by repeat (first | (with_reducible first | exact HB.out | apply below_alloc | apply pw_below_drewN | apply below_drew1) | exact HB.out)⟩⟩
                  · have H1 : (mandrellaw20_MovesPlans.j2 k2 l0 a1 t199 x9_2 true) = some r := by rw [if_neg (show ¬ (some q226).isNone = true by simp)] at H; exact H
                    clear H
                    have H := H1
                    clear H1
                    try simp only [errW_none, errW_some]
                    have H' := Aside0.mk H
                    clear H
                    go_wp2
                    repeat (go_quiet (fail); try go_wp2)
                    go_meet
                    case rel => exact ⟨_, (true), (by first | rfl | (simp; done) | (simp [*]; done)), H', ⟨by have := HJ7.out; have := HK2.out; first | omega | exact Nat.le_refl _⟩, ⟨by (with_reducible repeat (first | apply Kd.R_alloc | apply Kd.R_drewN | apply Kd.R_drew)); exact HO_5.out⟩, ⟨by repeat (first | (with_reducible first | exact HB.out | apply below_alloc | apply pw_below_drewN | apply below_drew1) | exact HB.out)⟩⟩
                case rest =>
                  clear HC36
                  try clear c1
                  try clear c2
                  try clear p2
                  try clear q2
                  try clear hx2
                  try clear c3
                  try clear c3b0
                  try clear c3b1
                  try clear p6
                  try clear c13
                  try clear c14
                  try clear c14b0
                  try clear c15
                  try clear c15b0
                  try clear c16
                  try clear c17
                  try clear c17b0
                  try clear c18
                  try clear c18b0
                  try clear c18b1
                  try clear c19
                  try clear c19b0
                  try clear c19b1
                  try clear p20
                  try clear q20
                  try clear hx20
                  try clear p21
                  try clear q21
                  try clear hx21
                  try clear p22
                  try clear q22
                  try clear hx22
                  try clear c24
                  try clear c24b0
                  try clear c24b1
                  try clear c29
                  try clear c29b0
                  try clear c30
                  try clear c30b0
                  try clear c30b1
                  try clear c35
                  try clear hx204_0
                  try clear hx204_1
                  try clear hx205_0
                  try clear hx205_1
                  try clear hx206_0
                  try clear hx206_1
                  try clear hx207_0
                  try clear hx207_1
                  try clear hx208_0
                  try clear hx208_1
                  try clear hx209_0
                  try clear hx209_1
                  try clear hx210_0
                  try clear hx210_1
                  try clear hx211_0
                  try clear hx211_1
                  try clear hx212_0
                  try clear hx212_1
                  try clear hx213_0
                  try clear hx213_1
                  try clear hx214_0
                  try clear hx214_1
                  try clear hx215_0
                  try clear hx215_1
                  try clear hx216_0
                  try clear hx216_1
                  try clear hx217_0
                  try clear hx217_1
                  try clear hx218_0
                  try clear hx218_1
                  try clear hx219_0
                  try clear hx219_1
                  try clear hx220_0
                  try clear hx220_1
                  try clear hx221_0
                  try clear hx221_1
                  try clear hx222_0
                  try clear hx222_1
                  try clear hx223_0
                  try clear hx223_1
                  try clear p2
                  try clear p204
                  try clear p205
                  try clear p206
                  try clear p207
                  try clear p208
                  try clear p209
                  try clear p210
                  try clear p211
                  try clear p212
                  try clear p213
                  try clear p214
                  try clear p215
                  try clear p216
                  try clear p217
                  try clear p218
                  try clear p219
                  try clear p220
                  try clear p221
                  try clear p222
                  try clear p223
                  try clear q204
                  try clear q205
                  try clear q206
                  try clear q207
                  try clear q208
                  try clear q209
                  try clear q210
                  try clear q211
                  try clear q212
                  try clear q213
                  try clear q214
                  try clear q215
                  try clear q216
                  try clear q217
                  try clear q218
                  try clear q219
                  try clear q220
                  try clear q221
                  try clear q222
                  try clear q223
                  try clear q226
                  obtain ⟨kq, x112_35, rfl, HA, HJ35, HO_5, HB⟩ := hcut
                  cases kq with
                  | zero => exact absurd HA.out (by simp [mandrellaw20_MovesPlans.j2])
                  | succ kj35 =>
                    have H := HA.out
                    clear HA
                    simp only [mandrellaw20_MovesPlans.j2] at H
                    by_cases c41 : x112_35 = true
                    · subst c41
                      have H1 : (some false) = some r := by rw [if_pos rfl] at H; exact H
                      clear H
                      have H := H1
                      clear H1
                      obtain rfl := Option.some.inj H
                      go_wp2
                      repeat (go_quiet (fail); try go_wp2)
                      go_ret
                      exact ⟨by first | rfl | (simp [errW_none, errW_some] <;> rfl) | (simp [*, errW_none, errW_some] <;> rfl), by repeat (first | (with_reducible first | exact HB.out | apply below_alloc | apply pw_below_drewN | apply below_drew1) | exact HB.out)⟩
                    · replace c41 := Bool.eq_false_iff.mpr c41
                      subst c41
                      have H1 : (if x9_2 > 5000 then ((mandrellaw20_sure.f kj35).bind fun t230 => (some t230)) else (if 0 ≤ (wrap64 (x9_2 + 1)) then (if (wrap64 (x9_2 + 1) : Int).toNat ≤ 35184372088832 then (mandrellaw20_MovesPlans.l1 kj35 l0 a1 t199 (List.replicate (wrap64 (x9_2 + 1) : Int).toNat 0) 0) else (none)) else (none))) = some r := by rw [if_neg (show ¬ (false = true) by decide)] at H; exact H
                      clear H
                      have H := H1
                      clear H1
                      by_cases c42 : x9_2 > 5000
                      · rw [if_pos c42] at H
                        have c42b0 : decide (5000 < x9_2) = true := decide_eq_true c42
                        clear c42
                        replace H := Option.bind_eq_some_iff.mp H
                        obtain ⟨t230, A430, H⟩ := H
                        replace H : (some t230) = some r := H
                        have A43 := Aside0.mk A430
                        clear A430
                        obtain rfl := Option.some.inj H
                        go_wp2_with (first | (go_at_call 6; (with_reducible refine (mandrellaw20_sure.calls kj35  t230 _ A43.out).mono ?_); rintro e w44 ⟨rfl, hb⟩; have n0_ := Aside0.mk (Kd.R_below (by (with_reducible repeat (first | apply Kd.R_alloc | apply Kd.R_drewN | apply Kd.R_drew)); exact HO_5.out) hb); have n1_ := Aside0.mk (below_step (by repeat (first | (with_reducible first | exact HB.out | apply below_alloc | apply pw_below_drewN | apply below_drew1) | exact HB.out)) hb); clear HO_5; clear HB; have HO_5 := n0_; have HB := n1_; clear n0_ n1_; (try clear hb); (try clear hb2); (try clear hk); (try clear hi)))
                        repeat (go_quiet (first | (go_at_call 6; (with_reducible refine (mandrellaw20_sure.calls kj35  t230 _ A43.out).mono ?_); rintro e w44 ⟨rfl, hb⟩; have n0_ := Aside0.mk (Kd.R_below (by (with_reducible repeat (first | apply Kd.R_alloc | apply Kd.R_drewN | apply Kd.R_drew)); exact HO_5.out) hb); have n1_ := Aside0.mk (below_step (by repeat (first | (with_reducible first | exact HB.out | apply below_alloc | apply pw_below_drewN | apply below_drew1) | exact HB.out)) hb); clear HO_5; clear HB; have HO_5 := n0_; have HB := n1_; clear n0_ n1_; (try clear hb); (try clear hb2); (try clear hk); (try clear hi))); try go_wp2_with (first | (go_at_call 6; (with_reducible refine (mandrellaw20_sure.calls kj35  t230 _ A43.out).mono ?_); rintro e w44 ⟨rfl, hb⟩; have n0_ := Aside0.mk (Kd.R_below (by (with_reducible repeat (first | apply Kd.R_alloc | apply Kd.R_drewN | apply Kd.R_drew)); exact HO_5.out) hb); have n1_ := Aside0.mk (below_step (by repeat (first | (with_reducible first | exact HB.out | apply below_alloc | apply pw_below_drewN | apply below_drew1) | exact HB.out)) hb); clear HO_5; clear HB; have HO_5 := n0_; have HB := n1_; clear n0_ n1_; (try clear hb); (try clear hb2); (try clear hk); (try clear hi))))
                        go_ret
                        exact ⟨by first | rfl | (simp [errW_none, errW_some] <;> rfl) | (simp [*, errW_none, errW_some] <;> rfl), by repeat (first | (with_reducible first | exact HB.out | apply below_alloc | apply pw_below_drewN | apply below_drew1) | exact HB.out)⟩
                      · rw [if_neg c42] at H
                        have c42b0 : decide (5000 < x9_2) = false := decide_eq_false c42
                        clear c42
                        obtain ⟨ji45, hji45⟩ : ∃ j_ : Int, (wrap64 (x9_2 + 1)) = j_ := ⟨_, rfl⟩
                        replace H : (if 0 ≤ (ji45) then (if (ji45 : Int).toNat ≤ 35184372088832 then (mandrellaw20_MovesPlans.l1 kj35 l0 a1 t199 (List.replicate (ji45 : Int).toNat 0) 0) else (none)) else (none)) = some r := by first | (rw [hji45] at H; exact H) | (simp only [hji45] at H ⊢; exact H)
                        have hji45w : (IntKind.i64.wrap (x9_2 + 1)) = ji45 := (i64_w _).trans hji45
                        by_cases c46 : 0 ≤ (ji45)
                        · rw [if_pos c46] at H
                          have c46b0 := eq_true c46
                          have c46b1 : decide (0 ≤ (ji45)) = true := decide_eq_true c46
                          clear c46
                          by_cases c47 : (ji45 : Int).toNat ≤ 35184372088832
                          · rw [if_pos c47] at H
                            have c47b0 := eq_true c47
                            have c47b1 : decide ((ji45 : Int).toNat ≤ 35184372088832) = true := decide_eq_true c47
                            clear c47
                            obtain ⟨y231, hy231⟩ : ∃ y_ : List Int, y_ = (List.replicate (ji45 : Int).toNat 0) := ⟨_, rfl⟩
                            replace H : (mandrellaw20_MovesPlans.l1 kj35 l0 a1 t199 y231 0) = some r := by first | (rw [hy231]; with_reducible exact H) | (have H2_ := (Option.bind_some _ _).symm.trans H; rw [hy231]; with_reducible exact H2_) | (have H2_ := (Option.bind_some _ _).symm.trans H; with_reducible exact H2_) | with_reducible exact H | (rw [hy231]; exact H) | exact H
                            have Ny231 := Aside0.mk hy231
                            clear hy231
                            have H' := Aside0.mk H
                            clear H
                            go_wp2_with (first | ((with_reducible refine gate_dst (N := 118) rfl ?_); (try (refine gate_guard (by rfl) ?_; dsimp only)); refine Kd.R_make (Kd.int .u64) _ 37 rfl (N := 118) rfl 36 _ _ rfl ji45 rfl rfl Tryd.underlying36 (.int .u64 0) 8 info37 rfl (by decide) (by omega) 0 (ok := fun _ => True) (okp := fun _ => True) rfl (fun _ hk => hk) trivial (of_decide_eq_true (by first | (with_reducible assumption) | assumption)) (Nat.le_trans (Nat.mul_le_mul_right _ (of_decide_eq_true (by first | (with_reducible assumption) | assumption) : ji45.toNat ≤ 35184372088832)) (by omega)) (Below.refl _ _) (Nat.le_refl _) ?_; intro v232 w48 ho49 hb hg_ hnew_; clear hg_ hnew_; (first | rw [← Ny231.out] at ho49 | (simp only [Int.reduceToNat] at ho49; rw [← Ny231.out] at ho49)); have n0_ := Aside0.mk (Kd.R_below (by (with_reducible repeat (first | apply Kd.R_alloc | apply Kd.R_drewN | apply Kd.R_drew)); exact HO_5.out) hb); have n1_ := Aside0.mk (Kd.R_lower ho49 (below_size (by repeat (first | (with_reducible first | exact HB.out | apply below_alloc | apply pw_below_drewN | apply below_drew1) | exact HB.out)))); have n2_ := Aside0.mk (below_step (by repeat (first | (with_reducible first | exact HB.out | apply below_alloc | apply pw_below_drewN | apply below_drew1) | exact HB.out)) hb); clear HO_5; clear HB; have HO_5 := n0_; have HO233 := n1_; have HB := n2_; clear n0_ n1_ n2_; clear hb ho49))
                            repeat (go_quiet (first | ((with_reducible refine gate_dst (N := 118) rfl ?_); (try (refine gate_guard (by rfl) ?_; dsimp only)); refine Kd.R_make (Kd.int .u64) _ 37 rfl (N := 118) rfl 36 _ _ rfl ji45 rfl rfl Tryd.underlying36 (.int .u64 0) 8 info37 rfl (by decide) (by omega) 0 (ok := fun _ => True) (okp := fun _ => True) rfl (fun _ hk => hk) trivial (of_decide_eq_true (by first | (with_reducible assumption) | assumption)) (Nat.le_trans (Nat.mul_le_mul_right _ (of_decide_eq_true (by first | (with_reducible assumption) | assumption) : ji45.toNat ≤ 35184372088832)) (by omega)) (Below.refl _ _) (Nat.le_refl _) ?_; intro v232 w48 ho49 hb hg_ hnew_; clear hg_ hnew_; (first | rw [← Ny231.out] at ho49 | (simp only [Int.reduceToNat] at ho49; rw [← Ny231.out] at ho49)); have n0_ := Aside0.mk (Kd.R_below (by (with_reducible repeat (first | apply Kd.R_alloc | apply Kd.R_drewN | apply Kd.R_drew)); exact HO_5.out) hb); have n1_ := Aside0.mk (Kd.R_lower ho49 (below_size (by repeat (first | (with_reducible first | exact HB.out | apply below_alloc | apply pw_below_drewN | apply below_drew1) | exact HB.out)))); have n2_ := Aside0.mk (below_step (by repeat (first | (with_reducible first | exact HB.out | apply below_alloc | apply pw_below_drewN | apply below_drew1) | exact HB.out)) hb); clear HO_5; clear HB; have HO_5 := n0_; have HO233 := n1_; have HB := n2_; clear n0_ n1_ n2_; clear hb ho49)); try go_wp2_with (first | ((with_reducible refine gate_dst (N := 118) rfl ?_); (try (refine gate_guard (by rfl) ?_; dsimp only)); refine Kd.R_make (Kd.int .u64) _ 37 rfl (N := 118) rfl 36 _ _ rfl ji45 rfl rfl Tryd.underlying36 (.int .u64 0) 8 info37 rfl (by decide) (by omega) 0 (ok := fun _ => True) (okp := fun _ => True) rfl (fun _ hk => hk) trivial (of_decide_eq_true (by first | (with_reducible assumption) | assumption)) (Nat.le_trans (Nat.mul_le_mul_right _ (of_decide_eq_true (by first | (with_reducible assumption) | assumption) : ji45.toNat ≤ 35184372088832)) (by omega)) (Below.refl _ _) (Nat.le_refl _) ?_; intro v232 w48 ho49 hb hg_ hnew_; clear hg_ hnew_; (first | rw [← Ny231.out] at ho49 | (simp only [Int.reduceToNat] at ho49; rw [← Ny231.out] at ho49)); have n0_ := Aside0.mk (Kd.R_below (by (with_reducible repeat (first | apply Kd.R_alloc | apply Kd.R_drewN | apply Kd.R_drew)); exact HO_5.out) hb); have n1_ := Aside0.mk (Kd.R_lower ho49 (below_size (by repeat (first | (with_reducible first | exact HB.out | apply below_alloc | apply pw_below_drewN | apply below_drew1) | exact HB.out)))); have n2_ := Aside0.mk (below_step (by repeat (first | (with_reducible first | exact HB.out | apply below_alloc | apply pw_below_drewN | apply below_drew1) | exact HB.out)) hb); clear HO_5; clear HB; have HO_5 := n0_; have HO233 := n1_; have HB := n2_; clear n0_ n1_ n2_; clear hb ho49)))
                            go_loopg [12] kj35 (fun kq v12 w' => ∃ (x11_4 : List Int) (x12_4 : Int), v12 = .int .i64 x12_4 ∧ Aside0 (mandrellaw20_MovesPlans.l1 kq l0 a1 t199 x11_4 x12_4 = some r) ∧ Aside0 (kq ≤ kj35) ∧ Aside0 (Kd.R k46 46 w' w.heap.size (fun _ => True) v201 t199) ∧ Aside0 (Kd.R (Kd.int .u64) 37 w' w.heap.size (fun _ => True) v232 x11_4) ∧ Aside0 (Below w.heap.size w w'))
                            case atStart => exact ⟨(y231), (0), (by first | rfl | (simp; done) | (simp [*]; done)), H', ⟨Nat.le_refl _⟩, ⟨by (with_reducible repeat (first | apply Kd.R_alloc | apply Kd.R_drewN | apply Kd.R_drew)); exact HO_5.out⟩, ⟨by (with_reducible repeat (first | apply Kd.R_alloc | apply Kd.R_drewN | apply Kd.R_drew)); exact HO233.out⟩, ⟨by repeat (first | (with_reducible first | exact HB.out | apply below_alloc | apply pw_below_drewN | apply below_drew1) | exact HB.out)⟩⟩
                            case round =>
                              clear H'
                              try clear c1
                              try clear c2
                              try clear p2
                              try clear q2
                              try clear hx2
                              try clear c3
                              try clear c3b0
                              try clear c3b1
                              try clear c4
                              try clear p6
                              try clear c13
                              try clear c14
                              try clear c14b0
                              try clear c15
                              try clear c15b0
                              try clear c16
                              try clear c17
                              try clear c17b0
                              try clear c18
                              try clear c18b0
                              try clear c18b1
                              try clear c19
                              try clear c19b0
                              try clear c19b1
                              try clear p20
                              try clear q20
                              try clear hx20
                              try clear p21
                              try clear q21
                              try clear hx21
                              try clear p22
                              try clear q22
                              try clear hx22
                              try clear c24
                              try clear c24b0
                              try clear c24b1
                              try clear c29
                              try clear c29b0
                              try clear c30
                              try clear c30b0
                              try clear c30b1
                              try clear c35
                              try clear c41
                              try clear c42
                              try clear c42b0
                              try clear c46
                              try clear c46b0
                              try clear c46b1
                              try clear c47
                              try clear c47b0
                              try clear c47b1
                              try clear hx204_0
                              try clear hx204_1
                              try clear hx205_0
                              try clear hx205_1
                              try clear hx206_0
                              try clear hx206_1
                              try clear hx207_0
                              try clear hx207_1
                              try clear hx208_0
                              try clear hx208_1
                              try clear hx209_0
                              try clear hx209_1
                              try clear hx210_0
                              try clear hx210_1
                              try clear hx211_0
                              try clear hx211_1
                              try clear hx212_0
                              try clear hx212_1
                              try clear hx213_0
                              try clear hx213_1
                              try clear hx214_0
                              try clear hx214_1
                              try clear hx215_0
                              try clear hx215_1
                              try clear hx216_0
                              try clear hx216_1
                              try clear hx217_0
                              try clear hx217_1
                              try clear hx218_0
                              try clear hx218_1
                              try clear hx219_0
                              try clear hx219_1
                              try clear hx220_0
                              try clear hx220_1
                              try clear hx221_0
                              try clear hx221_1
                              try clear hx222_0
                              try clear hx222_1
                              try clear hx223_0
                              try clear hx223_1
                              try clear p2
                              try clear p20
                              try clear p204
                              try clear p205
                              try clear p206
                              try clear p207
                              try clear p208
                              try clear p209
                              try clear p21
                              try clear p210
                              try clear p211
                              try clear p212
                              try clear p213
                              try clear p214
                              try clear p215
                              try clear p216
                              try clear p217
                              try clear p218
                              try clear p219
                              try clear p22
                              try clear p220
                              try clear p221
                              try clear p222
                              try clear p223
                              try clear p6
                              try clear q2
                              try clear q20
                              try clear q204
                              try clear q205
                              try clear q206
                              try clear q207
                              try clear q208
                              try clear q209
                              try clear q21
                              try clear q210
                              try clear q211
                              try clear q212
                              try clear q213
                              try clear q214
                              try clear q215
                              try clear q216
                              try clear q217
                              try clear q218
                              try clear q219
                              try clear q22
                              try clear q220
                              try clear q221
                              try clear q222
                              try clear q223
                              try clear q226
                              obtain ⟨x11_4, x12_4, rfl, HA, HK4, HO_5, HO_11, HB⟩ := hrel
                              cases gk with
                              | zero => exact absurd HA.out (by simp [mandrellaw20_MovesPlans.l1])
                              | succ k4 =>
                                have H := HA.out
                                clear HA
                                simp only [mandrellaw20_MovesPlans.l1] at H
                                by_cases c50 : x12_4 < (x11_4.length : Int)
                                · rw [if_pos c50] at H
                                  have c50b0 : decide (x12_4 < (x11_4.length : Int)) = true := decide_eq_true c50
                                  clear c50
                                  by_cases c51 : 0 ≤ x12_4
                                  · rw [if_pos c51] at H
                                    have c51b0 : decide (0 ≤ x12_4) = true := decide_eq_true c51
                                    clear c51
                                    obtain ⟨y234, hy234⟩ : ∃ y_ : List Int, y_ = (x11_4.set (x12_4 : Int).toNat (IntKind.u64.wrap (wrap64 (1000 + x12_4)))) := ⟨_, rfl⟩
                                    replace H : (mandrellaw20_MovesPlans.l1 k4 l0 a1 t199 y234 (wrap64 (x12_4 + 1))) = some r := by first | (rw [hy234]; with_reducible exact H) | (have H2_ := (Option.bind_some _ _).symm.trans H; rw [hy234]; with_reducible exact H2_) | (have H2_ := (Option.bind_some _ _).symm.trans H; with_reducible exact H2_) | with_reducible exact H | (rw [hy234]; exact H) | exact H
                                    have Ny234 := Aside0.mk hy234
                                    clear hy234
                                    have H' := Aside0.mk H
                                    clear H
                                    obtain ⟨Ao53, co53, eo53⟩ := Kd.R_slice HO_11.out
                                    subst eo53
                                    have p52 : 0 ≤ (x12_4 : Int) := of_decide_eq_true (by first | (with_reducible assumption) | assumption)
                                    have q52 : (x12_4 : Int) < ((x11_4.length : Int) : Int) := of_decide_eq_true (by first | (with_reducible assumption) | assumption)
                                    obtain ⟨go52, co52, eo52, gb52, gl52, cl52, HG52⟩ := Kd.R_form HO_11.out (by omega)
                                    (first | cases eo52 | (injection eo52 with ea_ en_ ec_; (first | subst ea_ | (injection ea_ with ea_; subst ea_)); subst ec_; clear en_))
                                    have GB52 := Aside0.mk gb52
                                    have GG52 := Aside0.mk HG52
                                    clear gb52 gl52 HG52
                                    obtain ⟨hx52_0, hf52_0⟩ := Kd.R_celln 0 HO_11.out (x12_4 : Int) p52 q52
                                    replace p52 := eq_true p52
                                    replace q52 := eq_true q52
                                    have HP54 := Kd.R_putg HO_11.out (x12_4 : Int) (IntKind.u64.wrap (wrap64 (1000 + x12_4)))
                                    go_wp2_with (first | ((with_reducible refine gate_store (t := 37) (p := 130) rfl ?_); (try (rw [drewN_self wr]; generalize hq_ : World.drewN wr _ = wr; have n0_ := Aside0.mk (Kd.R_at hq_ HO_5.out); have n1_ := Aside0.mk (Kd.R_at hq_ HO_11.out); have n2_ := Aside0.mk (below_at hq_ HB.out); clear hq_ HO_5 HO_11 HB; have HO_5 := n0_; have HO_11 := n1_; have HB := n2_; clear n0_ n1_ n2_; (try (have HP54 := Kd.R_putg HO_11.out (x12_4 : Int) (IntKind.u64.wrap (wrap64 (1000 + x12_4))))))); refine store_event (t := 37) (p := 130) (v := ?vo_w55) (w1 := (wr.setCell ⟨go52, (x12_4 : Int).toNat, none⟩ (.int .u64 (IntKind.u64.wrap (wrap64 (1000 + x12_4)))))) ?hg ?ho ?hn ?hr ?_; (case ho => rfl); (case hg => rfl); (case hn => rfl); (case hr => first | (go_simp; done) | (go_simp; rfl)); intro w55 hw; have hg : wr.grownBy w55 (some go52) := (by rw [hw]; exact HP54.2); have hp_ : Kd.R (Kd.int .u64) 37 w55 w.heap.size (fun _ => True) (.slice (some ⟨go52, 0, none⟩) x11_4.length co53) y234 := (by rw [hw, Ny234.out]; exact HP54.1); clear HP54; have n0_ := Aside0.mk (Kd.R_over' (v := (.slice (some ⟨go52, 0, none⟩) x11_4.length co53)) (by (with_reducible repeat (first | apply Kd.R_alloc | apply Kd.R_drewN | apply Kd.R_drew)); exact HO_5.out) (Kd.R_typed HO_11.out) (by decide) hg); have n1_ := Aside0.mk (hp_); have n2_ := Aside0.mk ((by rw [hw]; exact below_set (HB.out) GB52.out : Below w.heap.size w w55)); clear HO_5; clear HO_11; clear HB; have HO_5 := n0_; have HO_11 := n1_; have HB := n2_; clear n0_ n1_ n2_; clear hg hw hp_))
                                    repeat (go_quiet (first | ((with_reducible refine gate_store (t := 37) (p := 130) rfl ?_); (try (rw [drewN_self wr]; generalize hq_ : World.drewN wr _ = wr; have n0_ := Aside0.mk (Kd.R_at hq_ HO_5.out); have n1_ := Aside0.mk (Kd.R_at hq_ HO_11.out); have n2_ := Aside0.mk (below_at hq_ HB.out); clear hq_ HO_5 HO_11 HB; have HO_5 := n0_; have HO_11 := n1_; have HB := n2_; clear n0_ n1_ n2_; (try (have HP54 := Kd.R_putg HO_11.out (x12_4 : Int) (IntKind.u64.wrap (wrap64 (1000 + x12_4))))))); refine store_event (t := 37) (p := 130) (v := ?vo_w55) (w1 := (wr.setCell ⟨go52, (x12_4 : Int).toNat, none⟩ (.int .u64 (IntKind.u64.wrap (wrap64 (1000 + x12_4)))))) ?hg ?ho ?hn ?hr ?_; (case ho => rfl); (case hg => rfl); (case hn => rfl); (case hr => first | (go_simp; done) | (go_simp; rfl)); intro w55 hw; have hg : wr.grownBy w55 (some go52) := (by rw [hw]; exact HP54.2); have hp_ : Kd.R (Kd.int .u64) 37 w55 w.heap.size (fun _ => True) (.slice (some ⟨go52, 0, none⟩) x11_4.length co53) y234 := (by rw [hw, Ny234.out]; exact HP54.1); clear HP54; have n0_ := Aside0.mk (Kd.R_over' (v := (.slice (some ⟨go52, 0, none⟩) x11_4.length co53)) (by (with_reducible repeat (first | apply Kd.R_alloc | apply Kd.R_drewN | apply Kd.R_drew)); exact HO_5.out) (Kd.R_typed HO_11.out) (by decide) hg); have n1_ := Aside0.mk (hp_); have n2_ := Aside0.mk ((by rw [hw]; exact below_set (HB.out) GB52.out : Below w.heap.size w w55)); clear HO_5; clear HO_11; clear HB; have HO_5 := n0_; have HO_11 := n1_; have HB := n2_; clear n0_ n1_ n2_; clear hg hw hp_)); try go_wp2_with (first | ((with_reducible refine gate_store (t := 37) (p := 130) rfl ?_); (try (rw [drewN_self wr]; generalize hq_ : World.drewN wr _ = wr; have n0_ := Aside0.mk (Kd.R_at hq_ HO_5.out); have n1_ := Aside0.mk (Kd.R_at hq_ HO_11.out); have n2_ := Aside0.mk (below_at hq_ HB.out); clear hq_ HO_5 HO_11 HB; have HO_5 := n0_; have HO_11 := n1_; have HB := n2_; clear n0_ n1_ n2_; (try (have HP54 := Kd.R_putg HO_11.out (x12_4 : Int) (IntKind.u64.wrap (wrap64 (1000 + x12_4))))))); refine store_event (t := 37) (p := 130) (v := ?vo_w55) (w1 := (wr.setCell ⟨go52, (x12_4 : Int).toNat, none⟩ (.int .u64 (IntKind.u64.wrap (wrap64 (1000 + x12_4)))))) ?hg ?ho ?hn ?hr ?_; (case ho => rfl); (case hg => rfl); (case hn => rfl); (case hr => first | (go_simp; done) | (go_simp; rfl)); intro w55 hw; have hg : wr.grownBy w55 (some go52) := (by rw [hw]; exact HP54.2); have hp_ : Kd.R (Kd.int .u64) 37 w55 w.heap.size (fun _ => True) (.slice (some ⟨go52, 0, none⟩) x11_4.length co53) y234 := (by rw [hw, Ny234.out]; exact HP54.1); clear HP54; have n0_ := Aside0.mk (Kd.R_over' (v := (.slice (some ⟨go52, 0, none⟩) x11_4.length co53)) (by (with_reducible repeat (first | apply Kd.R_alloc | apply Kd.R_drewN | apply Kd.R_drew)); exact HO_5.out) (Kd.R_typed HO_11.out) (by decide) hg); have n1_ := Aside0.mk (hp_); have n2_ := Aside0.mk ((by rw [hw]; exact below_set (HB.out) GB52.out : Below w.heap.size w w55)); clear HO_5; clear HO_11; clear HB; have HO_5 := n0_; have HO_11 := n1_; have HB := n2_; clear n0_ n1_ n2_; clear hg hw hp_)))
                                    go_roundg k4
                                    case measure => have := HJ7.out; have := HK2.out; have := HJ35.out; have := HK4.out; omega
                                    case rel => exact ⟨(y234), (wrap64 (x12_4 + 1)), (by first | rfl | (simp; done) | (simp [*]; done)), H', ⟨by have := HJ7.out; have := HK2.out; have := HJ35.out; have := HK4.out; omega⟩, ⟨by (with_reducible repeat (first | apply Kd.R_alloc | apply Kd.R_drewN | apply Kd.R_drew)); exact HO_5.out⟩, ⟨by (with_reducible repeat (first | apply Kd.R_alloc | apply Kd.R_drewN | apply Kd.R_drew)); exact HO_11.out⟩, ⟨by repeat (first | (with_reducible first | exact HB.out | apply below_alloc | apply pw_below_drewN | apply below_drew1) | exact HB.out)⟩⟩
                                  · rw [if_neg c51] at H
                                    exact absurd H (by simp)
                                · rw [if_neg c50] at H
                                  have c50b0 : decide (x12_4 < (x11_4.length : Int)) = false := decide_eq_false c50
                                  clear c50
                                  replace H := Option.bind_eq_some_iff.mp H
                                  obtain ⟨⟨t235, t236⟩, A560, H⟩ := H
                                  replace H : (if t235.isNone = true then (mandrellaw20_MovesPlans.l2 k4 l0 a1 t236 0) else (some false)) = some r := H
                                  have A56 := Aside0.mk A560
                                  clear A560
                                  rcases t235 with _ | q237
                                  · have H1 : (mandrellaw20_MovesPlans.l2 k4 l0 a1 t236 0) = some r := by rw [if_pos (show (none : Option Int).isNone = true by rfl)] at H; exact H
                                    clear H
                                    have H := H1
                                    clear H1
                                    try simp only [errW_none, errW_some]
                                    have H' := Aside0.mk H
                                    clear H
                                    obtain ⟨Ao57, co57, eo57⟩ := Kd.R_slice HO_11.out
                                    subst eo57
                                    obtain ⟨Ao58, co58, eo58⟩ := Kd.R_slice HO_5.out
                                    subst eo58
                                    go_wp2_with (first | (go_at_call 12; (with_reducible refine (moves_Do.calls k4 (fun k_ => some k_ = (.slice Ao57 x11_4.length co57 : Value).ownBlock) (.slice Ao57 x11_4.length co57) x11_4 _ _ t199 none t236 w _ ?side1 ?side2 ?side3 ?side4 A56.out).mono ?_); (case side1 => repeat (first | (with_reducible first | exact HB.out | apply below_alloc | apply pw_below_drewN | apply below_drew1) | exact HB.out)); (case side2 => exact Kd.R_tight rfl HO_11.out); (case side3 => exact Kd.C_kept_own ((Kd.R_apart' HO_5.out (Kd.R_typed HO_11.out) (by decide))) (fun k_ hk_ hs_ => (hk_.2) hs_)); (case side4 => exact (Kd.R_reads' HO_5.out).2.1); rintro e w59 ⟨rfl, hy0, hb, hkp⟩; have n0_ := Aside0.mk (Kd.R_mono (ok' := fun k_ => True) (Kd.R_keptB ((Kd.R_apart' HO_5.out (Kd.R_typed HO_11.out) (by decide))) hkp (fun k_ hk_ hs_ => (hk_.2) hs_)) (fun k_ hk_ => trivial)); have n1_ := Aside0.mk (Kd.R_reok rfl hy0 (fun k_ e_ => HO_11.out.1 k_ e_)); have n2_ := Aside0.mk (hb); clear HO_5; clear HO_11; clear HB; have HO_5 := n0_; have HO_11 := n1_; have HB := n2_; clear n0_ n1_ n2_; (try clear hb); (try clear hkp); (try clear hy0); (try simp only [errW_none, errW_some])))
                                    repeat (go_quiet (first | (go_at_call 12; (with_reducible refine (moves_Do.calls k4 (fun k_ => some k_ = (.slice Ao57 x11_4.length co57 : Value).ownBlock) (.slice Ao57 x11_4.length co57) x11_4 _ _ t199 none t236 w _ ?side1 ?side2 ?side3 ?side4 A56.out).mono ?_); (case side1 => repeat (first | (with_reducible first | exact HB.out | apply below_alloc | apply pw_below_drewN | apply below_drew1) | exact HB.out)); (case side2 => exact Kd.R_tight rfl HO_11.out); (case side3 => exact Kd.C_kept_own ((Kd.R_apart' HO_5.out (Kd.R_typed HO_11.out) (by decide))) (fun k_ hk_ hs_ => (hk_.2) hs_)); (case side4 => exact (Kd.R_reads' HO_5.out).2.1); rintro e w59 ⟨rfl, hy0, hb, hkp⟩; have n0_ := Aside0.mk (Kd.R_mono (ok' := fun k_ => True) (Kd.R_keptB ((Kd.R_apart' HO_5.out (Kd.R_typed HO_11.out) (by decide))) hkp (fun k_ hk_ hs_ => (hk_.2) hs_)) (fun k_ hk_ => trivial)); have n1_ := Aside0.mk (Kd.R_reok rfl hy0 (fun k_ e_ => HO_11.out.1 k_ e_)); have n2_ := Aside0.mk (hb); clear HO_5; clear HO_11; clear HB; have HO_5 := n0_; have HO_11 := n1_; have HB := n2_; clear n0_ n1_ n2_; (try clear hb); (try clear hkp); (try clear hy0); (try simp only [errW_none, errW_some]))); try go_wp2_with (first | (go_at_call 12; (with_reducible refine (moves_Do.calls k4 (fun k_ => some k_ = (.slice Ao57 x11_4.length co57 : Value).ownBlock) (.slice Ao57 x11_4.length co57) x11_4 _ _ t199 none t236 w _ ?side1 ?side2 ?side3 ?side4 A56.out).mono ?_); (case side1 => repeat (first | (with_reducible first | exact HB.out | apply below_alloc | apply pw_below_drewN | apply below_drew1) | exact HB.out)); (case side2 => exact Kd.R_tight rfl HO_11.out); (case side3 => exact Kd.C_kept_own ((Kd.R_apart' HO_5.out (Kd.R_typed HO_11.out) (by decide))) (fun k_ hk_ hs_ => (hk_.2) hs_)); (case side4 => exact (Kd.R_reads' HO_5.out).2.1); rintro e w59 ⟨rfl, hy0, hb, hkp⟩; have n0_ := Aside0.mk (Kd.R_mono (ok' := fun k_ => True) (Kd.R_keptB ((Kd.R_apart' HO_5.out (Kd.R_typed HO_11.out) (by decide))) hkp (fun k_ hk_ hs_ => (hk_.2) hs_)) (fun k_ hk_ => trivial)); have n1_ := Aside0.mk (Kd.R_reok rfl hy0 (fun k_ e_ => HO_11.out.1 k_ e_)); have n2_ := Aside0.mk (hb); clear HO_5; clear HO_11; clear HB; have HO_5 := n0_; have HO_11 := n1_; have HB := n2_; clear n0_ n1_ n2_; (try clear hb); (try clear hkp); (try clear hy0); (try simp only [errW_none, errW_some]))))
                                    go_loopg [13] k4 (fun kq v13 w' => ∃ (x13_5 : Int), v13 = .int .i64 x13_5 ∧ Aside0 (mandrellaw20_MovesPlans.l2 kq l0 a1 t236 x13_5 = some r) ∧ Aside0 (kq ≤ k4) ∧ Aside0 (Kd.R (Kd.int .u64) 37 w' w.heap.size (fun _ => True) (.slice Ao57 x11_4.length co57) t236) ∧ Aside0 (Below w.heap.size w w'))
                                    case atStart => exact ⟨(0), (by first | rfl | (simp; done) | (simp [*]; done)), H', ⟨Nat.le_refl _⟩, ⟨by (with_reducible repeat (first | apply Kd.R_alloc | apply Kd.R_drewN | apply Kd.R_drew)); exact HO_11.out⟩, ⟨by repeat (first | (with_reducible first | exact HB.out | apply below_alloc | apply pw_below_drewN | apply below_drew1) | exact HB.out)⟩⟩
                                    case round =>
                                      clear H'
                                      try clear c1
                                      try clear c2
                                      try clear p2
                                      try clear q2
                                      try clear hx2
                                      try clear c3
                                      try clear c3b0
                                      try clear c3b1
                                      try clear c4
                                      try clear c5
                                      try clear p5
                                      try clear q5
                                      try clear hx5
                                      try clear hf5
                                      try clear p6
                                      try clear c13
                                      try clear c14
                                      try clear c14b0
                                      try clear c15
                                      try clear c15b0
                                      try clear c16
                                      try clear c17
                                      try clear c17b0
                                      try clear c18
                                      try clear c18b0
                                      try clear c18b1
                                      try clear c19
                                      try clear c19b0
                                      try clear c19b1
                                      try clear p20
                                      try clear q20
                                      try clear hx20
                                      try clear p21
                                      try clear q21
                                      try clear hx21
                                      try clear p22
                                      try clear q22
                                      try clear hx22
                                      try clear q23
                                      try clear c24
                                      try clear c24b0
                                      try clear c24b1
                                      try clear c29
                                      try clear c29b0
                                      try clear c30
                                      try clear c30b0
                                      try clear c30b1
                                      try clear c35
                                      try clear c41
                                      try clear c42
                                      try clear c42b0
                                      try clear c46
                                      try clear c46b0
                                      try clear c46b1
                                      try clear c47
                                      try clear c47b0
                                      try clear c47b1
                                      try clear c50
                                      try clear c50b0
                                      try clear c51
                                      try clear c51b0
                                      try clear p52
                                      try clear q52
                                      try clear hx52
                                      try clear hf52
                                      try clear hx204_0
                                      try clear hx204_1
                                      try clear hx205_0
                                      try clear hx205_1
                                      try clear hx206_0
                                      try clear hx206_1
                                      try clear hx207_0
                                      try clear hx207_1
                                      try clear hx208_0
                                      try clear hx208_1
                                      try clear hx209_0
                                      try clear hx209_1
                                      try clear hx210_0
                                      try clear hx210_1
                                      try clear hx211_0
                                      try clear hx211_1
                                      try clear hx212_0
                                      try clear hx212_1
                                      try clear hx213_0
                                      try clear hx213_1
                                      try clear hx214_0
                                      try clear hx214_1
                                      try clear hx215_0
                                      try clear hx215_1
                                      try clear hx216_0
                                      try clear hx216_1
                                      try clear hx217_0
                                      try clear hx217_1
                                      try clear hx218_0
                                      try clear hx218_1
                                      try clear hx219_0
                                      try clear hx219_1
                                      try clear hx220_0
                                      try clear hx220_1
                                      try clear hx221_0
                                      try clear hx221_1
                                      try clear hx222_0
                                      try clear hx222_1
                                      try clear hx223_0
                                      try clear hx223_1
                                      try clear hx52_0
                                      try clear p2
                                      try clear p20
                                      try clear p204
                                      try clear p205
                                      try clear p206
                                      try clear p207
                                      try clear p208
                                      try clear p209
                                      try clear p21
                                      try clear p210
                                      try clear p211
                                      try clear p212
                                      try clear p213
                                      try clear p214
                                      try clear p215
                                      try clear p216
                                      try clear p217
                                      try clear p218
                                      try clear p219
                                      try clear p22
                                      try clear p220
                                      try clear p221
                                      try clear p222
                                      try clear p223
                                      try clear p52
                                      try clear p6
                                      try clear q2
                                      try clear q20
                                      try clear q204
                                      try clear q205
                                      try clear q206
                                      try clear q207
                                      try clear q208
                                      try clear q209
                                      try clear q21
                                      try clear q210
                                      try clear q211
                                      try clear q212
                                      try clear q213
                                      try clear q214
                                      try clear q215
                                      try clear q216
                                      try clear q217
                                      try clear q218
                                      try clear q219
                                      try clear q22
                                      try clear q220
                                      try clear q221
                                      try clear q222
                                      try clear q223
                                      try clear q226
                                      try clear q237
                                      try clear q52
                                      obtain ⟨x13_5, rfl, HA, HK5, HO_11, HB⟩ := hrel
                                      have hl11_5 := (Kd.R_reads' HO_11.out).1
                                      rw [hl11_5] at HO_11
                                      (try simp only [hl11_5])
                                      cases gk with
                                      | zero => exact absurd HA.out (by simp [mandrellaw20_MovesPlans.l2])
                                      | succ k5 =>
                                        have H := HA.out
                                        clear HA
                                        simp only [mandrellaw20_MovesPlans.l2] at H
                                        by_cases c60 : x13_5 < (t236.length : Int)
                                        · rw [if_pos c60] at H
                                          have c60b0 : decide (x13_5 < (t236.length : Int)) = true := decide_eq_true c60
                                          clear c60
                                          have H' := Aside0.mk H
                                          clear H
                                          go_wp2
                                          repeat (go_quiet (fail); try go_wp2)
                                          go_loopg [14, 15] k5 (fun kq v14 v15 w' => ∃ (x14_6 : Int) (x15_6 : Int), v14 = .int .u64 x14_6 ∧ v15 = .int .i64 x15_6 ∧ Aside0 (mandrellaw20_MovesPlans.l3 kq l0 a1 t236 x13_5 x14_6 x15_6 = some r) ∧ Aside0 (kq ≤ k5) ∧ Aside0 (Kd.R (Kd.int .u64) 37 w' w.heap.size (fun _ => True) (.slice Ao57 t236.length co57) t236) ∧ Aside0 (Below w.heap.size w w'))
                                          case atStart => exact ⟨(IntKind.u64.wrap (wrap64 (1000 + x13_5))), (0), (by first | rfl | (simp; done) | (simp [*]; done)), (by first | rfl | (simp; done) | (simp [*]; done)), H', ⟨Nat.le_refl _⟩, ⟨by (try simp only [hl11_5]); (with_reducible repeat (first | apply Kd.R_alloc | apply Kd.R_drewN | apply Kd.R_drew)); exact HO_11.out⟩, ⟨by repeat (first | (with_reducible first | exact HB.out | apply below_alloc | apply pw_below_drewN | apply below_drew1) | exact HB.out)⟩⟩
                                          case round =>
                                            clear H'
                                            try clear c1
                                            try clear c2
                                            try clear p2
                                            try clear q2
                                            try clear hx2
                                            try clear c3
                                            try clear c3b0
                                            try clear c3b1
                                            try clear c4
                                            try clear c5
                                            try clear p5
                                            try clear q5
                                            try clear hx5
                                            try clear hf5
                                            try clear c6
                                            try clear p6
                                            try clear c13
                                            try clear c14
                                            try clear c14b0
                                            try clear c15
                                            try clear c15b0
                                            try clear c16
                                            try clear c17
                                            try clear c17b0
                                            try clear c18
                                            try clear c18b0
                                            try clear c18b1
                                            try clear c19
                                            try clear c19b0
                                            try clear c19b1
                                            try clear p20
                                            try clear q20
                                            try clear hx20
                                            try clear p21
                                            try clear q21
                                            try clear hx21
                                            try clear p22
                                            try clear q22
                                            try clear hx22
                                            try clear q23
                                            try clear c24
                                            try clear c24b0
                                            try clear c24b1
                                            try clear c29
                                            try clear c29b0
                                            try clear c30
                                            try clear c30b0
                                            try clear c30b1
                                            try clear c35
                                            try clear c41
                                            try clear c42
                                            try clear c42b0
                                            try clear c46
                                            try clear c46b0
                                            try clear c46b1
                                            try clear c47
                                            try clear c47b0
                                            try clear c47b1
                                            try clear c50
                                            try clear c50b0
                                            try clear c51
                                            try clear c51b0
                                            try clear p52
                                            try clear q52
                                            try clear hx52
                                            try clear hf52
                                            try clear c60
                                            try clear c60b0
                                            try clear hx204_0
                                            try clear hx204_1
                                            try clear hx205_0
                                            try clear hx205_1
                                            try clear hx206_0
                                            try clear hx206_1
                                            try clear hx207_0
                                            try clear hx207_1
                                            try clear hx208_0
                                            try clear hx208_1
                                            try clear hx209_0
                                            try clear hx209_1
                                            try clear hx210_0
                                            try clear hx210_1
                                            try clear hx211_0
                                            try clear hx211_1
                                            try clear hx212_0
                                            try clear hx212_1
                                            try clear hx213_0
                                            try clear hx213_1
                                            try clear hx214_0
                                            try clear hx214_1
                                            try clear hx215_0
                                            try clear hx215_1
                                            try clear hx216_0
                                            try clear hx216_1
                                            try clear hx217_0
                                            try clear hx217_1
                                            try clear hx218_0
                                            try clear hx218_1
                                            try clear hx219_0
                                            try clear hx219_1
                                            try clear hx220_0
                                            try clear hx220_1
                                            try clear hx221_0
                                            try clear hx221_1
                                            try clear hx222_0
                                            try clear hx222_1
                                            try clear hx223_0
                                            try clear hx223_1
                                            try clear hx52_0
                                            try clear p2
                                            try clear p20
                                            try clear p204
                                            try clear p205
                                            try clear p206
                                            try clear p207
                                            try clear p208
                                            try clear p209
                                            try clear p21
                                            try clear p210
                                            try clear p211
                                            try clear p212
                                            try clear p213
                                            try clear p214
                                            try clear p215
                                            try clear p216
                                            try clear p217
                                            try clear p218
                                            try clear p219
                                            try clear p22
                                            try clear p220
                                            try clear p221
                                            try clear p222
                                            try clear p223
                                            try clear p5
                                            try clear p52
                                            try clear p6
                                            try clear q2
                                            try clear q20
                                            try clear q204
                                            try clear q205
                                            try clear q206
                                            try clear q207
                                            try clear q208
                                            try clear q209
                                            try clear q21
                                            try clear q210
                                            try clear q211
                                            try clear q212
                                            try clear q213
                                            try clear q214
                                            try clear q215
                                            try clear q216
                                            try clear q217
                                            try clear q218
                                            try clear q219
                                            try clear q22
                                            try clear q220
                                            try clear q221
                                            try clear q222
                                            try clear q223
                                            try clear q226
                                            try clear q23
                                            try clear q237
                                            try clear q5
                                            try clear q52
                                            obtain ⟨x14_6, x15_6, rfl, rfl, HA, HK6, HO_11, HB⟩ := hrel
                                            cases gk with
                                            | zero => exact absurd HA.out (by simp [mandrellaw20_MovesPlans.l3])
                                            | succ k6 =>
                                              have H := HA.out
                                              clear HA
                                              simp only [mandrellaw20_MovesPlans.l3] at H
                                              by_cases c61 : x15_6 < (l0.length : Int)
                                              · rw [if_pos c61] at H
                                                have c61b0 : decide (x15_6 < (l0.length : Int)) = true := decide_eq_true c61
                                                clear c61
                                                by_cases c62 : 0 ≤ x15_6
                                                · rw [if_pos c62] at H
                                                  have c62b0 : decide (0 ≤ x15_6) = true := decide_eq_true c62
                                                  clear c62
                                                  by_cases c63 : ((rd_T32 l0 x15_6).f0) = x13_5
                                                  · rw [if_pos c63] at H
                                                    have c63b0 : (((rd_T32 l0 x15_6).f0) == x13_5) = true := beq_iff_eq.mpr c63
                                                    have c63b1 : (((rd_T32 l0 x15_6).f0) != x13_5) = false := bne_eq_false_iff_eq.mpr c63
                                                    clear c63
                                                    have H' := Aside0.mk H
                                                    clear H
                                                    have p239 : 0 ≤ (x15_6 : Int) := of_decide_eq_true (by first | (with_reducible assumption) | assumption)
                                                    have q239 : x15_6 < (l0.length : Int) := of_decide_eq_true (by first | (with_reducible assumption) | assumption)
                                                    obtain ⟨ad239, e239, hx239_0, hx239_1⟩ := at_T32 HR0.out x15_6 p239 q239
                                                    cases e239
                                                    replace hx239_0 := (HB.out.cell (World.block_lt_of_cell? w _ hx239_0)).trans hx239_0
                                                    replace hx239_1 := (HB.out.cell (World.block_lt_of_cell? w _ hx239_1)).trans hx239_1
                                                    replace p239 := eq_true p239
                                                    replace q239 := eq_true q239
                                                    have p240 : 0 ≤ (x15_6 : Int) := of_decide_eq_true (by first | (with_reducible assumption) | assumption)
                                                    have q240 : x15_6 < (l0.length : Int) := of_decide_eq_true (by first | (with_reducible assumption) | assumption)
                                                    obtain ⟨ad240, e240, hx240_0, hx240_1⟩ := at_T32 HR0.out x15_6 p240 q240
                                                    obtain rfl : ad239 = ad240 := (by injection e240)
                                                    replace hx240_0 := (HB.out.cell (World.block_lt_of_cell? w _ hx240_0)).trans hx240_0
                                                    replace hx240_1 := (HB.out.cell (World.block_lt_of_cell? w _ hx240_1)).trans hx240_1
                                                    replace p240 := eq_true p240
                                                    replace q240 := eq_true q240
                                                    go_wp2
                                                    repeat (go_quiet (fail); try go_wp2)
                                                    go_roundg k6
                                                    case measure => have := HJ7.out; have := HK2.out; have := HJ35.out; have := HK4.out; have := HK5.out; have := HK6.out; omega
                                                    case rel => exact ⟨(IntKind.u64.wrap (wrap64 (1000 + ((rd_T32 l0 x15_6).f1)))), (wrap64 (x15_6 + 1)), (by first | rfl | (simp; done) | (simp [*]; done)), (by first | rfl | (simp; done) | (simp [*]; done)), H', ⟨by have := HJ7.out; have := HK2.out; have := HJ35.out; have := HK4.out; have := HK5.out; have := HK6.out; omega⟩, ⟨by (try simp only [hl11_5]); (with_reducible repeat (first | apply Kd.R_alloc | apply Kd.R_drewN | apply Kd.R_drew)); exact HO_11.out⟩, ⟨by repeat (first | (with_reducible first | exact HB.out | apply below_alloc | apply pw_below_drewN | apply below_drew1) | exact HB.out)⟩⟩
                                                  · rw [if_neg c63] at H
                                                    have c63b0 : (((rd_T32 l0 x15_6).f0) == x13_5) = false := beq_eq_false_iff_ne.mpr c63
                                                    have c63b1 : (((rd_T32 l0 x15_6).f0) != x13_5) = true := bne_iff_ne.mpr c63
                                                    have H' := Aside0.mk H
                                                    clear H
                                                    have p239 : 0 ≤ (x15_6 : Int) := of_decide_eq_true (by first | (with_reducible assumption) | assumption)
                                                    have q239 : x15_6 < (l0.length : Int) := of_decide_eq_true (by first | (with_reducible assumption) | assumption)
                                                    obtain ⟨ad239, e239, hx239_0, hx239_1⟩ := at_T32 HR0.out x15_6 p239 q239
                                                    cases e239
                                                    replace hx239_0 := (HB.out.cell (World.block_lt_of_cell? w _ hx239_0)).trans hx239_0
                                                    replace hx239_1 := (HB.out.cell (World.block_lt_of_cell? w _ hx239_1)).trans hx239_1
                                                    replace p239 := eq_true p239
                                                    replace q239 := eq_true q239
                                                    go_wp2
                                                    repeat (go_quiet (fail); try go_wp2)
                                                    go_roundg k6
                                                    case measure => have := HJ7.out; have := HK2.out; have := HJ35.out; have := HK4.out; have := HK5.out; have := HK6.out; omega
                                                    case rel => exact ⟨(x14_6), (wrap64 (x15_6 + 1)), (by first | rfl | (simp; done) | (simp [*]; done)), (by first | rfl | (simp; done) | (simp [*]; done)), H', ⟨by have := HJ7.out; have := HK2.out; have := HJ35.out; have := HK4.out; have := HK5.out; have := HK6.out; omega⟩, ⟨by (try simp only [hl11_5]); (with_reducible repeat (first | apply Kd.R_alloc | apply Kd.R_drewN | apply Kd.R_drew)); exact HO_11.out⟩, ⟨by repeat (first | (with_reducible first | exact HB.out | apply below_alloc | apply pw_below_drewN | apply below_drew1) | exact HB.out)⟩⟩
                                                · rw [if_neg c62] at H
                                                  exact absurd H (by simp)
                                              · rw [if_neg c61] at H
                                                have c61b0 : decide (x15_6 < (l0.length : Int)) = false := decide_eq_false c61
                                                clear c61
                                                by_cases c64 : x13_5 = a1
                                                · rw [if_pos c64] at H
                                                  have c64b0 : (x13_5 == a1) = true := beq_iff_eq.mpr c64
                                                  have c64b1 : (x13_5 != a1) = false := bne_eq_false_iff_eq.mpr c64
                                                  clear c64
                                                  have H' := Aside0.mk H
                                                  clear H
                                                  go_wp2
                                                  repeat (go_quiet (fail); try go_wp2)
                                                  (try simp only [← hl11_5])
                                                  go_roundg k6
                                                  case measure => have := HJ7.out; have := HK2.out; have := HJ35.out; have := HK4.out; have := HK5.out; have := HK6.out; omega
                                                  case rel => exact ⟨(wrap64 (x13_5 + 1)), (by first | rfl | (simp; done) | (simp [*]; done)), H', ⟨by have := HJ7.out; have := HK2.out; have := HJ35.out; have := HK4.out; have := HK5.out; have := HK6.out; omega⟩, ⟨by (try simp only [hl11_5]); (with_reducible repeat (first | apply Kd.R_alloc | apply Kd.R_drewN | apply Kd.R_drew)); exact HO_11.out⟩, ⟨by repeat (first | (with_reducible first | exact HB.out | apply below_alloc | apply pw_below_drewN | apply below_drew1) | exact HB.out)⟩⟩
                                                · rw [if_neg c64] at H
                                                  have c64b0 : (x13_5 == a1) = false := beq_eq_false_iff_ne.mpr c64
                                                  have c64b1 : (x13_5 != a1) = true := bne_iff_ne.mpr c64
                                                  by_cases c65 : 0 ≤ x13_5
                                                  · rw [if_pos c65] at H
                                                    have c65b0 : decide (0 ≤ x13_5) = true := decide_eq_true c65
                                                    clear c65
                                                    by_cases c66 : x13_5 < (t236.length : Int)
                                                    · rw [if_pos c66] at H
                                                      have c66b0 : decide (x13_5 < (t236.length : Int)) = true := decide_eq_true c66
                                                      clear c66
                                                      by_cases c67 : (rd t236 x13_5) = x14_6
                                                      · rw [if_pos c67] at H
                                                        have c67b0 : ((rd t236 x13_5) == x14_6) = true := beq_iff_eq.mpr c67
                                                        have c67b1 : ((rd t236 x13_5) != x14_6) = false := bne_eq_false_iff_eq.mpr c67
                                                        clear c67
                                                        have H' := Aside0.mk H
                                                        clear H
                                                        have p241 : 0 ≤ (x13_5 : Int) := of_decide_eq_true (by first | (with_reducible assumption) | assumption)
                                                        have q241 : x13_5 < (t236.length : Int) := of_decide_eq_true (by first | (with_reducible assumption) | assumption)
                                                        obtain ⟨ad241, e241, hx241_0⟩ := Kd.at_int (Kd.R_reads' HO_11.out).2.2 x13_5 p241 q241
                                                        cases e241
                                                        replace p241 := eq_true p241
                                                        replace q241 := eq_true q241
                                                        go_wp2
                                                        repeat (go_quiet (fail); try go_wp2)
                                                        (try simp only [← hl11_5])
                                                        go_roundg k6
                                                        case measure => have := HJ7.out; have := HK2.out; have := HJ35.out; have := HK4.out; have := HK5.out; have := HK6.out; omega
                                                        case rel => exact ⟨(wrap64 (x13_5 + 1)), (by first | rfl | (simp; done) | (simp [*]; done)), H', ⟨by have := HJ7.out; have := HK2.out; have := HJ35.out; have := HK4.out; have := HK5.out; have := HK6.out; omega⟩, ⟨by (try simp only [hl11_5]); (with_reducible repeat (first | apply Kd.R_alloc | apply Kd.R_drewN | apply Kd.R_drew)); exact HO_11.out⟩, ⟨by repeat (first | (with_reducible first | exact HB.out | apply below_alloc | apply pw_below_drewN | apply below_drew1) | exact HB.out)⟩⟩
                                                      · rw [if_neg c67] at H
                                                        have c67b0 : ((rd t236 x13_5) == x14_6) = false := beq_eq_false_iff_ne.mpr c67
                                                        have c67b1 : ((rd t236 x13_5) != x14_6) = true := bne_iff_ne.mpr c67
                                                        obtain rfl := Option.some.inj H
                                                        have p241 : 0 ≤ (x13_5 : Int) := of_decide_eq_true (by first | (with_reducible assumption) | assumption)
                                                        have q241 : x13_5 < (t236.length : Int) := of_decide_eq_true (by first | (with_reducible assumption) | assumption)
                                                        obtain ⟨ad241, e241, hx241_0⟩ := Kd.at_int (Kd.R_reads' HO_11.out).2.2 x13_5 p241 q241
                                                        cases e241
                                                        replace p241 := eq_true p241
                                                        replace q241 := eq_true q241
                                                        go_wp2
                                                        repeat (go_quiet (fail); try go_wp2)
                                                        go_ret
                                                        exact ⟨by first | rfl | (simp [errW_none, errW_some] <;> rfl) | (simp only [← hji45]; first | rfl | (simp [errW_none, errW_some] <;> rfl)) | (simp [*, errW_none, errW_some] <;> rfl), by repeat (first | (with_reducible first | exact HB.out | apply below_alloc | apply pw_below_drewN | apply below_drew1) | exact HB.out)⟩
                                                    · rw [if_neg c66] at H
                                                      exact absurd H (by simp)
                                                  · rw [if_neg c65] at H
                                                    exact absurd H (by simp)
                                        · rw [if_neg c60] at H
                                          have c60b0 : decide (x13_5 < (t236.length : Int)) = false := decide_eq_false c60
                                          clear c60
                                          replace H := Option.bind_eq_some_iff.mp H
                                          obtain ⟨t238, A680, H⟩ := H
                                          replace H : (some t238) = some r := H
                                          have A68 := Aside0.mk A680
                                          clear A680
                                          obtain rfl := Option.some.inj H
                                          go_wp2_with (first | (go_at_call 6; (with_reducible refine (mandrellaw20_sure.calls k5  t238 _ A68.out).mono ?_); rintro e w69 ⟨rfl, hb⟩; have n0_ := Aside0.mk (Kd.R_below (by (with_reducible repeat (first | apply Kd.R_alloc | apply Kd.R_drewN | apply Kd.R_drew)); exact HO_11.out) hb); have n1_ := Aside0.mk (below_step (by repeat (first | (with_reducible first | exact HB.out | apply below_alloc | apply pw_below_drewN | apply below_drew1) | exact HB.out)) hb); clear HO_11; clear HB; have HO_11 := n0_; have HB := n1_; clear n0_ n1_; (try clear hb); (try clear hb2); (try clear hk); (try clear hi)))
                                          repeat (go_quiet (first | (go_at_call 6; (with_reducible refine (mandrellaw20_sure.calls k5  t238 _ A68.out).mono ?_); rintro e w69 ⟨rfl, hb⟩; have n0_ := Aside0.mk (Kd.R_below (by (with_reducible repeat (first | apply Kd.R_alloc | apply Kd.R_drewN | apply Kd.R_drew)); exact HO_11.out) hb); have n1_ := Aside0.mk (below_step (by repeat (first | (with_reducible first | exact HB.out | apply below_alloc | apply pw_below_drewN | apply below_drew1) | exact HB.out)) hb); clear HO_11; clear HB; have HO_11 := n0_; have HB := n1_; clear n0_ n1_; (try clear hb); (try clear hb2); (try clear hk); (try clear hi))); try go_wp2_with (first | (go_at_call 6; (with_reducible refine (mandrellaw20_sure.calls k5  t238 _ A68.out).mono ?_); rintro e w69 ⟨rfl, hb⟩; have n0_ := Aside0.mk (Kd.R_below (by (with_reducible repeat (first | apply Kd.R_alloc | apply Kd.R_drewN | apply Kd.R_drew)); exact HO_11.out) hb); have n1_ := Aside0.mk (below_step (by repeat (first | (with_reducible first | exact HB.out | apply below_alloc | apply pw_below_drewN | apply below_drew1) | exact HB.out)) hb); clear HO_11; clear HB; have HO_11 := n0_; have HB := n1_; clear n0_ n1_; (try clear hb); (try clear hb2); (try clear hk); (try clear hi))))
                                          go_ret
                                          exact ⟨by first | rfl | (simp [errW_none, errW_some] <;> rfl) | (simp only [← hji45]; first | rfl | (simp [errW_none, errW_some] <;> rfl)) | (simp [*, errW_none, errW_some] <;> rfl), by repeat (first | (with_reducible first | exact HB.out | apply below_alloc | apply pw_below_drewN | apply below_drew1) | exact HB.out)⟩
                                  · have H1 : (some false) = some r := by rw [if_neg (show ¬ (some q237).isNone = true by simp)] at H; exact H
                                    clear H
                                    have H := H1
                                    clear H1
                                    try simp only [errW_none, errW_some]
                                    obtain rfl := Option.some.inj H
                                    obtain ⟨Ao70, co70, eo70⟩ := Kd.R_slice HO_11.out
                                    subst eo70
                                    obtain ⟨Ao71, co71, eo71⟩ := Kd.R_slice HO_5.out
                                    subst eo71
                                    go_wp2_with (first | (go_at_call 12; (with_reducible refine (moves_Do.calls k4 (fun k_ => some k_ = (.slice Ao70 x11_4.length co70 : Value).ownBlock) (.slice Ao70 x11_4.length co70) x11_4 _ _ t199 (some q237) t236 w _ ?side1 ?side2 ?side3 ?side4 A56.out).mono ?_); (case side1 => repeat (first | (with_reducible first | exact HB.out | apply below_alloc | apply pw_below_drewN | apply below_drew1) | exact HB.out)); (case side2 => exact Kd.R_tight rfl HO_11.out); (case side3 => exact Kd.C_kept_own ((Kd.R_apart' HO_5.out (Kd.R_typed HO_11.out) (by decide))) (fun k_ hk_ hs_ => (hk_.2) hs_)); (case side4 => exact (Kd.R_reads' HO_5.out).2.1); rintro e w72 ⟨rfl, hy0, hb, hkp⟩; have n0_ := Aside0.mk (Kd.R_mono (ok' := fun k_ => True) (Kd.R_keptB ((Kd.R_apart' HO_5.out (Kd.R_typed HO_11.out) (by decide))) hkp (fun k_ hk_ hs_ => (hk_.2) hs_)) (fun k_ hk_ => trivial)); have n1_ := Aside0.mk (Kd.R_reok rfl hy0 (fun k_ e_ => HO_11.out.1 k_ e_)); have n2_ := Aside0.mk (hb); clear HO_5; clear HO_11; clear HB; have HO_5 := n0_; have HO_11 := n1_; have HB := n2_; clear n0_ n1_ n2_; (try clear hb); (try clear hkp); (try clear hy0); (try simp only [errW_none, errW_some])))
                                    repeat (go_quiet (first | (go_at_call 12; (with_reducible refine (moves_Do.calls k4 (fun k_ => some k_ = (.slice Ao70 x11_4.length co70 : Value).ownBlock) (.slice Ao70 x11_4.length co70) x11_4 _ _ t199 (some q237) t236 w _ ?side1 ?side2 ?side3 ?side4 A56.out).mono ?_); (case side1 => repeat (first | (with_reducible first | exact HB.out | apply below_alloc | apply pw_below_drewN | apply below_drew1) | exact HB.out)); (case side2 => exact Kd.R_tight rfl HO_11.out); (case side3 => exact Kd.C_kept_own ((Kd.R_apart' HO_5.out (Kd.R_typed HO_11.out) (by decide))) (fun k_ hk_ hs_ => (hk_.2) hs_)); (case side4 => exact (Kd.R_reads' HO_5.out).2.1); rintro e w72 ⟨rfl, hy0, hb, hkp⟩; have n0_ := Aside0.mk (Kd.R_mono (ok' := fun k_ => True) (Kd.R_keptB ((Kd.R_apart' HO_5.out (Kd.R_typed HO_11.out) (by decide))) hkp (fun k_ hk_ hs_ => (hk_.2) hs_)) (fun k_ hk_ => trivial)); have n1_ := Aside0.mk (Kd.R_reok rfl hy0 (fun k_ e_ => HO_11.out.1 k_ e_)); have n2_ := Aside0.mk (hb); clear HO_5; clear HO_11; clear HB; have HO_5 := n0_; have HO_11 := n1_; have HB := n2_; clear n0_ n1_ n2_; (try clear hb); (try clear hkp); (try clear hy0); (try simp only [errW_none, errW_some]))); try go_wp2_with (first | (go_at_call 12; (with_reducible refine (moves_Do.calls k4 (fun k_ => some k_ = (.slice Ao70 x11_4.length co70 : Value).ownBlock) (.slice Ao70 x11_4.length co70) x11_4 _ _ t199 (some q237) t236 w _ ?side1 ?side2 ?side3 ?side4 A56.out).mono ?_); (case side1 => repeat (first | (with_reducible first | exact HB.out | apply below_alloc | apply pw_below_drewN | apply below_drew1) | exact HB.out)); (case side2 => exact Kd.R_tight rfl HO_11.out); (case side3 => exact Kd.C_kept_own ((Kd.R_apart' HO_5.out (Kd.R_typed HO_11.out) (by decide))) (fun k_ hk_ hs_ => (hk_.2) hs_)); (case side4 => exact (Kd.R_reads' HO_5.out).2.1); rintro e w72 ⟨rfl, hy0, hb, hkp⟩; have n0_ := Aside0.mk (Kd.R_mono (ok' := fun k_ => True) (Kd.R_keptB ((Kd.R_apart' HO_5.out (Kd.R_typed HO_11.out) (by decide))) hkp (fun k_ hk_ hs_ => (hk_.2) hs_)) (fun k_ hk_ => trivial)); have n1_ := Aside0.mk (Kd.R_reok rfl hy0 (fun k_ e_ => HO_11.out.1 k_ e_)); have n2_ := Aside0.mk (hb); clear HO_5; clear HO_11; clear HB; have HO_5 := n0_; have HO_11 := n1_; have HB := n2_; clear n0_ n1_ n2_; (try clear hb); (try clear hkp); (try clear hy0); (try simp only [errW_none, errW_some]))))
                                    go_ret
                                    exact ⟨by first | rfl | (simp [errW_none, errW_some] <;> rfl) | (simp only [← hji45]; first | rfl | (simp [errW_none, errW_some] <;> rfl)) | (simp [*, errW_none, errW_some] <;> rfl), by repeat (first | (with_reducible first | exact HB.out | apply below_alloc | apply pw_below_drewN | apply below_drew1) | exact HB.out)⟩
                          · rw [if_neg c47] at H
                            exact absurd H (by simp)
                        · rw [if_neg c46] at H
                          exact absurd H (by simp)
              · replace c35 := Bool.eq_false_iff.mpr c35
                subst c35
                have H1 : ((mandrellaw20_num.f t200).bind fun t224 => (if t224 = 1 then (if (t199.length : Int) = 0 then ((mandrellaw20_sure.f k2).bind fun t225 => (some t225)) else (some false)) else (some false))) = some r := by rw [if_neg (show ¬ (false = true) by decide)] at H; exact H
                clear H
                have H := H1
                clear H1
                replace H := Option.bind_eq_some_iff.mp H
                obtain ⟨t224, A730, H⟩ := H
                replace H : (if t224 = 1 then (if (t199.length : Int) = 0 then ((mandrellaw20_sure.f k2).bind fun t225 => (some t225)) else (some false)) else (some false)) = some r := H
                have A73 := Aside0.mk A730
                clear A730
                by_cases c74 : t224 = 1
                · rw [if_pos c74] at H
                  have c74b0 : (t224 == 1) = true := beq_iff_eq.mpr c74
                  have c74b1 : (t224 != 1) = false := bne_eq_false_iff_eq.mpr c74
                  clear c74
                  by_cases c75 : (t199.length : Int) = 0
                  · rw [if_pos c75] at H
                    have c75b0 : ((t199.length : Int) == 0) = true := beq_iff_eq.mpr c75
                    have c75b1 : ((t199.length : Int) != 0) = false := bne_eq_false_iff_eq.mpr c75
                    clear c75
                    replace H := Option.bind_eq_some_iff.mp H
                    obtain ⟨t225, A760, H⟩ := H
                    replace H : (some t225) = some r := H
                    have A76 := Aside0.mk A760
                    clear A760
                    obtain rfl := Option.some.inj H
                    have CA73 := fun W (hLWE : LaidE W) => mandrellaw20_num.calls t200 t224 W hLWE A73.out
                    try simp only [errW_none, errW_some] at CA73
                    go_wp2_with (first | (go_at_call 10; (with_reducible refine (CA73 _ ?side1).mono ?_); (case side1 => refine hLE.below ?_; repeat (first | (with_reducible first | exact HB.out | apply below_alloc | apply pw_below_drewN | apply below_drew1) | exact HB.out)); rintro e w77 ⟨rfl, hb⟩; have n0_ := Aside0.mk (Kd.R_below (by (with_reducible repeat (first | apply Kd.R_alloc | apply Kd.R_drewN | apply Kd.R_drew)); exact HO_5.out) hb); have n1_ := Aside0.mk (below_step (by repeat (first | (with_reducible first | exact HB.out | apply below_alloc | apply pw_below_drewN | apply below_drew1) | exact HB.out)) hb); clear HO_5; clear HB; have HO_5 := n0_; have HB := n1_; clear n0_ n1_; (try clear hb); (try clear hb2); (try clear hk); (try clear hi); obtain ⟨Ao78, co78, eo78⟩ := Kd.R_slice HO_5.out; subst eo78) | (go_at_call 6; (with_reducible refine (mandrellaw20_sure.calls k2  t225 _ A76.out).mono ?_); rintro e w79 ⟨rfl, hb⟩; have n0_ := Aside0.mk (Kd.R_below (by (with_reducible repeat (first | apply Kd.R_alloc | apply Kd.R_drewN | apply Kd.R_drew)); exact HO_5.out) hb); have n1_ := Aside0.mk (below_step (by repeat (first | (with_reducible first | exact HB.out | apply below_alloc | apply pw_below_drewN | apply below_drew1) | exact HB.out)) hb); clear HO_5; clear HB; have HO_5 := n0_; have HB := n1_; clear n0_ n1_; (try clear hb); (try clear hb2); (try clear hk); (try clear hi)))
                    repeat (go_quiet (first | (go_at_call 10; (with_reducible refine (CA73 _ ?side1).mono ?_); (case side1 => refine hLE.below ?_; repeat (first | (with_reducible first | exact HB.out | apply below_alloc | apply pw_below_drewN | apply below_drew1) | exact HB.out)); rintro e w77 ⟨rfl, hb⟩; have n0_ := Aside0.mk (Kd.R_below (by (with_reducible repeat (first | apply Kd.R_alloc | apply Kd.R_drewN | apply Kd.R_drew)); exact HO_5.out) hb); have n1_ := Aside0.mk (below_step (by repeat (first | (with_reducible first | exact HB.out | apply below_alloc | apply pw_below_drewN | apply below_drew1) | exact HB.out)) hb); clear HO_5; clear HB; have HO_5 := n0_; have HB := n1_; clear n0_ n1_; (try clear hb); (try clear hb2); (try clear hk); (try clear hi); obtain ⟨Ao78, co78, eo78⟩ := Kd.R_slice HO_5.out; subst eo78) | (go_at_call 6; (with_reducible refine (mandrellaw20_sure.calls k2  t225 _ A76.out).mono ?_); rintro e w79 ⟨rfl, hb⟩; have n0_ := Aside0.mk (Kd.R_below (by (with_reducible repeat (first | apply Kd.R_alloc | apply Kd.R_drewN | apply Kd.R_drew)); exact HO_5.out) hb); have n1_ := Aside0.mk (below_step (by repeat (first | (with_reducible first | exact HB.out | apply below_alloc | apply pw_below_drewN | apply below_drew1) | exact HB.out)) hb); clear HO_5; clear HB; have HO_5 := n0_; have HB := n1_; clear n0_ n1_; (try clear hb); (try clear hb2); (try clear hk); (try clear hi))); try go_wp2_with (first | (go_at_call 10; (with_reducible refine (CA73 _ ?side1).mono ?_); (case side1 => refine hLE.below ?_; repeat (first | (with_reducible first | exact HB.out | apply below_alloc | apply pw_below_drewN | apply below_drew1) | exact HB.out)); rintro e w77 ⟨rfl, hb⟩; have n0_ := Aside0.mk (Kd.R_below (by (with_reducible repeat (first | apply Kd.R_alloc | apply Kd.R_drewN | apply Kd.R_drew)); exact HO_5.out) hb); have n1_ := Aside0.mk (below_step (by repeat (first | (with_reducible first | exact HB.out | apply below_alloc | apply pw_below_drewN | apply below_drew1) | exact HB.out)) hb); clear HO_5; clear HB; have HO_5 := n0_; have HB := n1_; clear n0_ n1_; (try clear hb); (try clear hb2); (try clear hk); (try clear hi); obtain ⟨Ao78, co78, eo78⟩ := Kd.R_slice HO_5.out; subst eo78) | (go_at_call 6; (with_reducible refine (mandrellaw20_sure.calls k2  t225 _ A76.out).mono ?_); rintro e w79 ⟨rfl, hb⟩; have n0_ := Aside0.mk (Kd.R_below (by (with_reducible repeat (first | apply Kd.R_alloc | apply Kd.R_drewN | apply Kd.R_drew)); exact HO_5.out) hb); have n1_ := Aside0.mk (below_step (by repeat (first | (with_reducible first | exact HB.out | apply below_alloc | apply pw_below_drewN | apply below_drew1) | exact HB.out)) hb); clear HO_5; clear HB; have HO_5 := n0_; have HB := n1_; clear n0_ n1_; (try clear hb); (try clear hb2); (try clear hk); (try clear hi))))
                    go_ret
                    exact ⟨by first | rfl | (simp [errW_none, errW_some] <;> rfl) | (simp [*, errW_none, errW_some] <;> rfl), by repeat (first | (with_reducible first | exact HB.out | apply below_alloc | apply pw_below_drewN | apply below_drew1) | exact HB.out)⟩
                  · rw [if_neg c75] at H
                    have c75b0 : ((t199.length : Int) == 0) = false := beq_eq_false_iff_ne.mpr c75
                    have c75b1 : ((t199.length : Int) != 0) = true := bne_iff_ne.mpr c75
                    have c75b2 : ¬ (t199 = []) := fun h_ => c75 (by rw [h_]; rfl)
                    obtain rfl := Option.some.inj H
                    have CA73 := fun W (hLWE : LaidE W) => mandrellaw20_num.calls t200 t224 W hLWE A73.out
                    try simp only [errW_none, errW_some] at CA73
                    go_wp2_with (first | (go_at_call 10; (with_reducible refine (CA73 _ ?side1).mono ?_); (case side1 => refine hLE.below ?_; repeat (first | (with_reducible first | exact HB.out | apply below_alloc | apply pw_below_drewN | apply below_drew1) | exact HB.out)); rintro e w80 ⟨rfl, hb⟩; have n0_ := Aside0.mk (Kd.R_below (by (with_reducible repeat (first | apply Kd.R_alloc | apply Kd.R_drewN | apply Kd.R_drew)); exact HO_5.out) hb); have n1_ := Aside0.mk (below_step (by repeat (first | (with_reducible first | exact HB.out | apply below_alloc | apply pw_below_drewN | apply below_drew1) | exact HB.out)) hb); clear HO_5; clear HB; have HO_5 := n0_; have HB := n1_; clear n0_ n1_; (try clear hb); (try clear hb2); (try clear hk); (try clear hi); obtain ⟨Ao81, co81, eo81⟩ := Kd.R_slice HO_5.out; subst eo81))
                    repeat (go_quiet (first | (go_at_call 10; (with_reducible refine (CA73 _ ?side1).mono ?_); (case side1 => refine hLE.below ?_; repeat (first | (with_reducible first | exact HB.out | apply below_alloc | apply pw_below_drewN | apply below_drew1) | exact HB.out)); rintro e w80 ⟨rfl, hb⟩; have n0_ := Aside0.mk (Kd.R_below (by (with_reducible repeat (first | apply Kd.R_alloc | apply Kd.R_drewN | apply Kd.R_drew)); exact HO_5.out) hb); have n1_ := Aside0.mk (below_step (by repeat (first | (with_reducible first | exact HB.out | apply below_alloc | apply pw_below_drewN | apply below_drew1) | exact HB.out)) hb); clear HO_5; clear HB; have HO_5 := n0_; have HB := n1_; clear n0_ n1_; (try clear hb); (try clear hb2); (try clear hk); (try clear hi); obtain ⟨Ao81, co81, eo81⟩ := Kd.R_slice HO_5.out; subst eo81)); try go_wp2_with (first | (go_at_call 10; (with_reducible refine (CA73 _ ?side1).mono ?_); (case side1 => refine hLE.below ?_; repeat (first | (with_reducible first | exact HB.out | apply below_alloc | apply pw_below_drewN | apply below_drew1) | exact HB.out)); rintro e w80 ⟨rfl, hb⟩; have n0_ := Aside0.mk (Kd.R_below (by (with_reducible repeat (first | apply Kd.R_alloc | apply Kd.R_drewN | apply Kd.R_drew)); exact HO_5.out) hb); have n1_ := Aside0.mk (below_step (by repeat (first | (with_reducible first | exact HB.out | apply below_alloc | apply pw_below_drewN | apply below_drew1) | exact HB.out)) hb); clear HO_5; clear HB; have HO_5 := n0_; have HB := n1_; clear n0_ n1_; (try clear hb); (try clear hb2); (try clear hk); (try clear hi); obtain ⟨Ao81, co81, eo81⟩ := Kd.R_slice HO_5.out; subst eo81)))
                    go_ret
                    exact ⟨by first | rfl | (simp [errW_none, errW_some] <;> rfl) | (simp [*, errW_none, errW_some] <;> rfl), by repeat (first | (with_reducible first | exact HB.out | apply below_alloc | apply pw_below_drewN | apply below_drew1) | exact HB.out)⟩
                · rw [if_neg c74] at H
                  have c74b0 : (t224 == 1) = false := beq_eq_false_iff_ne.mpr c74
                  have c74b1 : (t224 != 1) = true := bne_iff_ne.mpr c74
                  obtain rfl := Option.some.inj H
                  have CA73 := fun W (hLWE : LaidE W) => mandrellaw20_num.calls t200 t224 W hLWE A73.out
                  try simp only [errW_none, errW_some] at CA73
                  go_wp2_with (first | (go_at_call 10; (with_reducible refine (CA73 _ ?side1).mono ?_); (case side1 => refine hLE.below ?_; repeat (first | (with_reducible first | exact HB.out | apply below_alloc | apply pw_below_drewN | apply below_drew1) | exact HB.out)); rintro e w82 ⟨rfl, hb⟩; have n0_ := Aside0.mk (Kd.R_below (by (with_reducible repeat (first | apply Kd.R_alloc | apply Kd.R_drewN | apply Kd.R_drew)); exact HO_5.out) hb); have n1_ := Aside0.mk (below_step (by repeat (first | (with_reducible first | exact HB.out | apply below_alloc | apply pw_below_drewN | apply below_drew1) | exact HB.out)) hb); clear HO_5; clear HB; have HO_5 := n0_; have HB := n1_; clear n0_ n1_; (try clear hb); (try clear hb2); (try clear hk); (try clear hi)))
                  repeat (go_quiet (first | (go_at_call 10; (with_reducible refine (CA73 _ ?side1).mono ?_); (case side1 => refine hLE.below ?_; repeat (first | (with_reducible first | exact HB.out | apply below_alloc | apply pw_below_drewN | apply below_drew1) | exact HB.out)); rintro e w82 ⟨rfl, hb⟩; have n0_ := Aside0.mk (Kd.R_below (by (with_reducible repeat (first | apply Kd.R_alloc | apply Kd.R_drewN | apply Kd.R_drew)); exact HO_5.out) hb); have n1_ := Aside0.mk (below_step (by repeat (first | (with_reducible first | exact HB.out | apply below_alloc | apply pw_below_drewN | apply below_drew1) | exact HB.out)) hb); clear HO_5; clear HB; have HO_5 := n0_; have HB := n1_; clear n0_ n1_; (try clear hb); (try clear hb2); (try clear hk); (try clear hi))); try go_wp2_with (first | (go_at_call 10; (with_reducible refine (CA73 _ ?side1).mono ?_); (case side1 => refine hLE.below ?_; repeat (first | (with_reducible first | exact HB.out | apply below_alloc | apply pw_below_drewN | apply below_drew1) | exact HB.out)); rintro e w82 ⟨rfl, hb⟩; have n0_ := Aside0.mk (Kd.R_below (by (with_reducible repeat (first | apply Kd.R_alloc | apply Kd.R_drewN | apply Kd.R_drew)); exact HO_5.out) hb); have n1_ := Aside0.mk (below_step (by repeat (first | (with_reducible first | exact HB.out | apply below_alloc | apply pw_below_drewN | apply below_drew1) | exact HB.out)) hb); clear HO_5; clear HB; have HO_5 := n0_; have HB := n1_; clear n0_ n1_; (try clear hb); (try clear hb2); (try clear hk); (try clear hi))))
                  go_ret
                  exact ⟨by first | rfl | (simp [errW_none, errW_some] <;> rfl) | (simp [*, errW_none, errW_some] <;> rfl), by repeat (first | (with_reducible first | exact HB.out | apply below_alloc | apply pw_below_drewN | apply below_drew1) | exact HB.out)⟩

end Go.Proofs.YtaklfdlcedlmfaaDoor.XM
