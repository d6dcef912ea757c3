/- Functions of the Go program as Lean functions, and the proofs that the Go code answers as they do. Written by a program of this session. -/
import Derived.Test.YtolhijnkgkfjgaaSure
import Derived.Test.YtolhijnkgkfjgaaXCx0
-- slim
namespace Go.Proofs.Ytolhijnkgkfjgaa.XC
open Go.RowKit Go.Proofs.YtolhijnkgkfjgaaW.PrintWords Go.Proofs.YtolhijnkgkfjgaaW.PrintLast Go.Proofs.YtolhijnkgkfjgaaW.PrintMore
attribute [local go_sem] max2_int min2_int max_two min_two max_three min_three max_four min_four   -- for this text's walks alone
set_option linter.unusedVariables false
set_option linter.unusedSimpArgs false

/-! scan_Assign: function 6: elsewhere -/

/-! ### mandrellaw19_many: function 9 -/
def mandrellaw19_many.l0 : Nat → List (S43) → Int → Int → Option (Bool)
 | 0, _, _, _ => none
 | k + 1, x0, x3, x4 => if x4 < (x0.length : Int) then (if 0 ≤ x4 then (mandrellaw19_many.l0 k x0 (wrap64 (x3 + (mn (((rd_T43 x0 x4).f0).length : Int) 1000))) (wrap64 (x4 + 1))) else (none)) else (some (decide (x3 > 400)))
def mandrellaw19_many.f (k : Nat) (l0 : List (S43)) : Option (Bool) := if (l0.length : Int) > 60 then (some true) else (mandrellaw19_many.l0 k l0 0 0)
theorem mandrellaw19_many.mono_l : ∀ k, (∀ y0 y1 y2, LeO (mandrellaw19_many.l0 k y0 y1 y2) (mandrellaw19_many.l0 (k + 1) y0 y1 y2))
 | 0 => fun _ _ _ r h => by simp [mandrellaw19_many.l0] at h
 | k + 1 => by
  have ih0 := mandrellaw19_many.mono_l k
  ·intro y0 y1 y2
   unfold mandrellaw19_many.l0
   repeat' first
   | (with_reducible exact ih0 _ _ _)
   | (with_reducible exact LeO.refl _)
   | (with_reducible exact LeO.none _)
   | (with_reducible refine LeO.ite ?_ ?_)
   | (with_reducible refine LeO.bind ?_ (fun _ => ?_))
   | exact ih0 _ _ _
   | exact LeO.none _
   | refine LeO.ite ?_ ?_
   | refine LeO.bind ?_ (fun _ => ?_)
theorem mandrellaw19_many.mono : ∀ a0 k, LeO (mandrellaw19_many.f k a0) (mandrellaw19_many.f (k + 1) a0) := by
 intro a0 k
 have ih0 := mandrellaw19_many.mono_l k
 unfold mandrellaw19_many.f
 repeat' first
   | (with_reducible exact ih0 _ _ _)
   | (with_reducible exact LeO.refl _)
   | (with_reducible exact LeO.none _)
   | (with_reducible refine LeO.ite ?_ ?_)
   | (with_reducible refine LeO.bind ?_ (fun _ => ?_))
   | exact ih0 _ _ _
   | exact LeO.none _
   | refine LeO.ite ?_ ?_
   | refine LeO.bind ?_ (fun _ => ?_)
set_option maxHeartbeats 8000000 in
set_option maxRecDepth 100000 in
theorem mandrellaw19_many.calls (k : Nat) (A0 : Option Addr) (c0 : Nat) (l0 : List (S43)) (r : Bool) (w : World) (hr0 : Kd.C k43 w A0 l0.length l0) (hc0 : l0.length ≤ c0) (h : mandrellaw19_many.f k l0 = some r) :
  Calls Try.prog 9 #[.slice A0 l0.length c0] w fun e w' => e = .returned (.bool r) ∧ Drawn0 w w' := by
 have HR0 := Aside0.mk hr0
 have HC0 := Aside0.mk hc0
 clear hr0 hc0
 have H : (if (l0.length : Int) > 60 then (some true) else (mandrellaw19_many.l0 k l0 0 0)) = some r := h
 clear h
 by_cases c2 : (l0.length : Int) > 60
 ·rw [if_pos c2] at H
  have c2b0 : decide (60 < (l0.length : Int)) = true := decide_eq_true c2
  have c2b1 : decide (60 < l0.length) = true := decide_eq_true (by omega)
  clear c2
  obtain rfl := Option.some.inj H
  go_enter Try.func9, Try.ntmps9
  go_wp2
  go_ret
  exact ⟨by first | rfl | (simp; done) | (simp [*]; done), by repeat (first | exact Drawn0.refl _ | apply Drawn0.step)⟩
 ·rw [if_neg c2] at H
  have c2b0 : decide (60 < (l0.length : Int)) = false := decide_eq_false c2
  have c2b1 : decide (60 < l0.length) = false := decide_eq_false (by omega)
  clear c2
  have H' := Aside0.mk H
  clear H
  go_enter Try.func9, Try.ntmps9
  go_wp2
  go_loopg [3, 4] k (fun kq v3 v4 w' => ∃ (x3_1 : Int) (x4_1 : Int), v3 = .int .i64 x3_1 ∧ v4 = .int .i64 x4_1 ∧ Aside0 (mandrellaw19_many.l0 kq l0 x3_1 x4_1 = some r) ∧ Aside0 (kq ≤ k) ∧ Drawn0 w w')
  case atStart => exact ⟨(0), (0), (by first | rfl | (simp; done) | (simp [*]; done)), (by first | rfl | (simp; done) | (simp [*]; done)), H', ⟨Nat.le_refl _⟩, by repeat (first | exact Drawn0.refl _ | apply Drawn0.step)⟩
  case round =>
   clear H'
   (try clear c2); (try clear c2b0); (try clear c2b1); (try clear p2)
   obtain ⟨x3_1, x4_1, rfl, rfl, HA, HK1, ⟨m1, rfl⟩⟩ := hrel
   cases gk with
   | zero => exact absurd HA.out (by simp [mandrellaw19_many.l0])
   | succ k1 =>
    have H := HA.out
    clear HA
    simp only [mandrellaw19_many.l0] at H
    by_cases c3 : x4_1 < (l0.length : Int)
    ·rw [if_pos c3] at H
     have c3b0 : decide (x4_1 < (l0.length : Int)) = true := decide_eq_true c3
     clear c3
     by_cases c4 : 0 ≤ x4_1
     ·rw [if_pos c4] at H
      have c4b0 : decide (0 ≤ x4_1) = true := decide_eq_true c4
      clear c4
      obtain ⟨ji5, hji5⟩ : ∃ j_ : Int, (mn (((rd_T43 l0 x4_1).f0).length : Int) 1000) = j_ := ⟨_, rfl⟩
      replace H : (mandrellaw19_many.l0 k1 l0 (wrap64 (x3_1 + (ji5))) (wrap64 (x4_1 + 1))) = some r := by first | (rw [hji5] at H; exact H) | (simp only [hji5] at H ⊢; exact H)
      have hji5_ : (if 1000 < (((rd_T43 l0 x4_1).f0).length : Int) then 1000 else (((rd_T43 l0 x4_1).f0).length : Int)) = ji5 := hji5
      have H' := Aside0.mk H
      clear H
      have p120 : 0 ≤ (x4_1 : Int) := of_decide_eq_true (by first | (with_reducible assumption) | assumption)
      have q120 : x4_1 < (l0.length : Int) := of_decide_eq_true (by first | (with_reducible assumption) | assumption)
      obtain ⟨ad120, A120_0, c120_0, e120, hx120_0, hx120_1, hl120_0, hi120_0⟩ := at_T43 HR0.out x4_1 p120 q120
      cases e120
      have HR120_0 := Aside0.mk hi120_0
      have HC120_0 := Aside0.mk hl120_0
      clear hi120_0 hl120_0
      replace p120 := eq_true p120
      replace q120 := eq_true q120
      go_wp2
      go_roundg k1
      case measure => have := HK1.out; omega
      case rel => exact ⟨(wrap64 (x3_1 + (ji5))), (wrap64 (x4_1 + 1)), (by first | rfl | (simp; done) | (simp only [← hji5] <;> (first | rfl | simp)) | (simp [*]; done)), (by first | rfl | (simp; done) | (simp [*]; done)), H', ⟨by have := HK1.out; omega⟩, by repeat (first | exact Drawn0.refl _ | apply Drawn0.step)⟩
     ·rw [if_neg c4] at H
      exact absurd H (by simp)
    ·rw [if_neg c3] at H
     have c3b0 : decide (x4_1 < (l0.length : Int)) = false := decide_eq_false c3
     clear c3
     obtain rfl := Option.some.inj H
     go_wp2
     go_ret
     exact ⟨by first | rfl | (simp; done) | (simp [*]; done), by repeat (first | exact Drawn0.refl _ | apply Drawn0.step)⟩

end Go.Proofs.Ytolhijnkgkfjgaa.XC
