/- Functions of the Go program as Lean functions, and the proofs that the Go code answers as they do. Written by a program of this session. -/
import Derived.Test.YtljmikfpknmnnaaDoorXSx0
-- slim
namespace Go.Proofs.YtljmikfpknmnnaaDoor.XS
open Go.RowKit Go.Proofs.YtljmikfpknmnnaaDoorW.PrintWords Go.Proofs.YtljmikfpknmnnaaDoorW.PrintLast Go.Proofs.YtljmikfpknmnnaaDoorW.PrintMore
attribute [local go_sem] max2_int min2_int max_two min_two max_three min_three max_four min_four   -- for this text's walks alone
set_option linter.unusedVariables false
set_option linter.unusedSimpArgs false

/-! ### mandrelref06_Text: function 25 -/
mutual
def mandrelref06_Text.l0 : Nat → List Int → Int → Option (Bool)
 | 0, _, _ => none
 | k + 1, x0, x3 => if x3 < (x0.length : Int) then (if 0 ≤ x3 then (if (rd x0 x3) < 128 then (mandrelref06_Text.l0 k x0 (wrap64 (x3 + 1))) else (if (rd x0 x3) ≥ 192 then (mandrelref06_Text.j1 k x0 x3 (decide ((rd x0 x3) < 224))) else (mandrelref06_Text.j1 k x0 x3 false))) else (none)) else (some true)
def mandrelref06_Text.j3 : Nat → List Int → Int → Int → Int → Option (Bool)
 | 0, _, _, _, _ => none
 | k + 1, x0, x3, x4, x5 => mandrelref06_Text.l1 k x0 x3 x4 x5 1
def mandrelref06_Text.l1 : Nat → List Int → Int → Int → Int → Int → Option (Bool)
 | 0, _, _, _, _, _ => none
 | k + 1, x0, x3, x4, x5, x6 => if x6 ≤ x4 then (if (wrap64 (x3 + x6)) ≥ (x0.length : Int) then (some false) else (if 0 ≤ (wrap64 (x3 + x6)) then (if (wrap64 (x3 + x6)) < (x0.length : Int) then (if (rd x0 (wrap64 (x3 + x6))) < 128 then (some false) else (if (rd x0 (wrap64 (x3 + x6))) > 191 then (some false) else (mandrelref06_Text.l1 k x0 x3 x4 (wrap64 ((wrap64 ((wrap64 (64 * x5)) + (wrap64 (rd x0 (wrap64 (x3 + x6)))))) - 128)) (wrap64 (x6 + 1))))) else (none)) else (none))) else (if x4 = 1 then (if x5 < 128 then (some false) else (if x5 > 1114111 then (some false) else (if x5 ≥ 55296 then (if x5 < 57344 then (some false) else (mandrelref06_Text.l0 k x0 (wrap64 ((wrap64 (x3 + x4)) + 1)))) else (mandrelref06_Text.l0 k x0 (wrap64 ((wrap64 (x3 + x4)) + 1)))))) else (if x4 = 2 then (if x5 < 2048 then (some false) else (if x5 > 1114111 then (some false) else (if x5 ≥ 55296 then (if x5 < 57344 then (some false) else (mandrelref06_Text.l0 k x0 (wrap64 ((wrap64 (x3 + x4)) + 1)))) else (mandrelref06_Text.l0 k x0 (wrap64 ((wrap64 (x3 + x4)) + 1)))))) else (if x4 = 3 then (if x5 < 65536 then (some false) else (if x5 > 1114111 then (some false) else (if x5 ≥ 55296 then (if x5 < 57344 then (some false) else (mandrelref06_Text.l0 k x0 (wrap64 ((wrap64 (x3 + x4)) + 1)))) else (mandrelref06_Text.l0 k x0 (wrap64 ((wrap64 (x3 + x4)) + 1)))))) else (if x5 > 1114111 then (some false) else (if x5 ≥ 55296 then (if x5 < 57344 then (some false) else (mandrelref06_Text.l0 k x0 (wrap64 ((wrap64 (x3 + x4)) + 1)))) else (mandrelref06_Text.l0 k x0 (wrap64 ((wrap64 (x3 + x4)) + 1))))))))
def mandrelref06_Text.j1 : Nat → List Int → Int → Bool → Option (Bool)
 | 0, _, _, _ => none
 | k + 1, x0, x3, x19 => if x19 = true then (if 0 ≤ x3 then (if x3 < (x0.length : Int) then (mandrelref06_Text.j3 k x0 x3 1 (wrap64 ((wrap64 (rd x0 x3)) - 192))) else (none)) else (none)) else (if 0 ≤ x3 then (if x3 < (x0.length : Int) then (if (rd x0 x3) ≥ 224 then (mandrelref06_Text.j2 k x0 x3 (decide ((rd x0 x3) < 240))) else (mandrelref06_Text.j2 k x0 x3 false)) else (none)) else (none))
def mandrelref06_Text.j2 : Nat → List Int → Int → Bool → Option (Bool)
 | 0, _, _, _ => none
 | k + 1, x0, x3, x38 => if x38 = true then (if 0 ≤ x3 then (if x3 < (x0.length : Int) then (mandrelref06_Text.j3 k x0 x3 2 (wrap64 ((wrap64 (rd x0 x3)) - 224))) else (none)) else (none)) else (if 0 ≤ x3 then (if x3 < (x0.length : Int) then (if (rd x0 x3) ≥ 240 then (if (rd x0 x3) < 248 then (mandrelref06_Text.j3 k x0 x3 3 (wrap64 ((wrap64 (rd x0 x3)) - 240))) else (some false)) else (some false)) else (none)) else (none))
end
def mandrelref06_Text.f (k : Nat) (l0 : List Int) : Option (Bool) := mandrelref06_Text.l0 k l0 0
theorem mandrelref06_Text.mono_l : ∀ k, (∀ y0 y1, LeO (mandrelref06_Text.l0 k y0 y1) (mandrelref06_Text.l0 (k + 1) y0 y1)) ∧ (∀ y0 y1 y2 y3, LeO (mandrelref06_Text.j3 k y0 y1 y2 y3) (mandrelref06_Text.j3 (k + 1) y0 y1 y2 y3)) ∧ (∀ y0 y1 y2 y3 y4, LeO (mandrelref06_Text.l1 k y0 y1 y2 y3 y4) (mandrelref06_Text.l1 (k + 1) y0 y1 y2 y3 y4)) ∧ (∀ y0 y1 y2, LeO (mandrelref06_Text.j1 k y0 y1 y2) (mandrelref06_Text.j1 (k + 1) y0 y1 y2)) ∧ (∀ y0 y1 y2, LeO (mandrelref06_Text.j2 k y0 y1 y2) (mandrelref06_Text.j2 (k + 1) y0 y1 y2))
 | 0 => ⟨fun _ _ r h => by simp [mandrelref06_Text.l0] at h, fun _ _ _ _ r h => by simp [mandrelref06_Text.j3] at h, fun _ _ _ _ _ r h => by simp [mandrelref06_Text.l1] at h, fun _ _ _ r h => by simp [mandrelref06_Text.j1] at h, fun _ _ _ r h => by simp [mandrelref06_Text.j2] at h⟩
 | k + 1 => by
  obtain ⟨ih0, ih1, ih2, ih3, ih4⟩ := mandrelref06_Text.mono_l k
  refine ⟨?_, ?_, ?_, ?_, ?_⟩
  ·intro y0 y1
   unfold mandrelref06_Text.l0
   repeat' first
   | (with_reducible exact ih0 _ _)
   | (with_reducible exact ih1 _ _ _ _)
   | (with_reducible exact ih2 _ _ _ _ _)
   | (with_reducible exact ih3 _ _ _)
   | (with_reducible exact ih4 _ _ _)
   | (with_reducible exact LeO.refl _)
   | (with_reducible exact LeO.none _)
   | (with_reducible refine LeO.ite ?_ ?_)
   | (with_reducible refine LeO.bind ?_ (fun _ => ?_))
   | exact ih0 _ _
   | exact ih1 _ _ _ _
   | exact ih2 _ _ _ _ _
   | exact ih3 _ _ _
   | exact ih4 _ _ _
   | exact LeO.none _
   | refine LeO.ite ?_ ?_
   | refine LeO.bind ?_ (fun _ => ?_)
  ·intro y0 y1 y2 y3
   unfold mandrelref06_Text.j3
   repeat' first
   | (with_reducible exact ih0 _ _)
   | (with_reducible exact ih1 _ _ _ _)
   | (with_reducible exact ih2 _ _ _ _ _)
   | (with_reducible exact ih3 _ _ _)
   | (with_reducible exact ih4 _ _ _)
   | (with_reducible exact LeO.refl _)
   | (with_reducible exact LeO.none _)
   | (with_reducible refine LeO.ite ?_ ?_)
   | (with_reducible refine LeO.bind ?_ (fun _ => ?_))
   | exact ih0 _ _
   | exact ih1 _ _ _ _
   | exact ih2 _ _ _ _ _
   | exact ih3 _ _ _
   | exact ih4 _ _ _
   | exact LeO.none _
   | refine LeO.ite ?_ ?_
   | refine LeO.bind ?_ (fun _ => ?_)
  ·intro y0 y1 y2 y3 y4
   unfold mandrelref06_Text.l1
   repeat' first
   | (with_reducible exact ih0 _ _)
   | (with_reducible exact ih1 _ _ _ _)
   | (with_reducible exact ih2 _ _ _ _ _)
   | (with_reducible exact ih3 _ _ _)
   | (with_reducible exact ih4 _ _ _)
   | (with_reducible exact LeO.refl _)
   | (with_reducible exact LeO.none _)
   | (with_reducible refine LeO.ite ?_ ?_)
   | (with_reducible refine LeO.bind ?_ (fun _ => ?_))
   | exact ih0 _ _
   | exact ih1 _ _ _ _
   | exact ih2 _ _ _ _ _
   | exact ih3 _ _ _
   | exact ih4 _ _ _
   | exact LeO.none _
   | refine LeO.ite ?_ ?_
   | refine LeO.bind ?_ (fun _ => ?_)
  ·intro y0 y1 y2
   unfold mandrelref06_Text.j1
   repeat' first
   | (with_reducible exact ih0 _ _)
   | (with_reducible exact ih1 _ _ _ _)
   | (with_reducible exact ih2 _ _ _ _ _)
   | (with_reducible exact ih3 _ _ _)
   | (with_reducible exact ih4 _ _ _)
   | (with_reducible exact LeO.refl _)
   | (with_reducible exact LeO.none _)
   | (with_reducible refine LeO.ite ?_ ?_)
   | (with_reducible refine LeO.bind ?_ (fun _ => ?_))
   | exact ih0 _ _
   | exact ih1 _ _ _ _
   | exact ih2 _ _ _ _ _
   | exact ih3 _ _ _
   | exact ih4 _ _ _
   | exact LeO.none _
   | refine LeO.ite ?_ ?_
   | refine LeO.bind ?_ (fun _ => ?_)
  ·intro y0 y1 y2
   unfold mandrelref06_Text.j2
   repeat' first
   | (with_reducible exact ih0 _ _)
   | (with_reducible exact ih1 _ _ _ _)
   | (with_reducible exact ih2 _ _ _ _ _)
   | (with_reducible exact ih3 _ _ _)
   | (with_reducible exact ih4 _ _ _)
   | (with_reducible exact LeO.refl _)
   | (with_reducible exact LeO.none _)
   | (with_reducible refine LeO.ite ?_ ?_)
   | (with_reducible refine LeO.bind ?_ (fun _ => ?_))
   | exact ih0 _ _
   | exact ih1 _ _ _ _
   | exact ih2 _ _ _ _ _
   | exact ih3 _ _ _
   | exact ih4 _ _ _
   | exact LeO.none _
   | refine LeO.ite ?_ ?_
   | refine LeO.bind ?_ (fun _ => ?_)
theorem mandrelref06_Text.mono : ∀ a0 k, LeO (mandrelref06_Text.f k a0) (mandrelref06_Text.f (k + 1) a0) := by
 intro a0 k
 obtain ⟨ih0, ih1, ih2, ih3, ih4⟩ := mandrelref06_Text.mono_l k
 unfold mandrelref06_Text.f
 repeat' first
   | (with_reducible exact ih0 _ _)
   | (with_reducible exact ih1 _ _ _ _)
   | (with_reducible exact ih2 _ _ _ _ _)
   | (with_reducible exact ih3 _ _ _)
   | (with_reducible exact ih4 _ _ _)
   | (with_reducible exact LeO.refl _)
   | (with_reducible exact LeO.none _)
   | (with_reducible refine LeO.ite ?_ ?_)
   | (with_reducible refine LeO.bind ?_ (fun _ => ?_))
   | exact ih0 _ _
   | exact ih1 _ _ _ _
   | exact ih2 _ _ _ _ _
   | exact ih3 _ _ _
   | exact ih4 _ _ _
   | exact LeO.none _
   | refine LeO.ite ?_ ?_
   | refine LeO.bind ?_ (fun _ => ?_)
set_option maxHeartbeats 8000000 in
set_option maxRecDepth 100000 in
theorem mandrelref06_Text.calls (k : Nat) (A0 : Option Addr) (c0 : Nat) (l0 : List Int) (r : Bool) (w : World) (hr0 : Kd.C (Kd.int .u8) w A0 l0.length l0) (hc0 : l0.length ≤ c0) (h : mandrelref06_Text.f k l0 = some r) :
  Calls Tryd.prog 25 #[.slice A0 l0.length c0] w fun e w' => e = .returned (.bool r) ∧ Drawn0 w w' := by
 have HR0 := Aside0.mk hr0
 have HC0 := Aside0.mk hc0
 clear hr0 hc0
 have H : (mandrelref06_Text.l0 k l0 0) = some r := h
 clear h
 have H' := Aside0.mk H
 clear H
 go_enter Tryd.func25, Tryd.ntmps25
 go_wp2
 repeat (go_quiet (fail); try go_wp2)
 go_loopg [3] k (fun kq v3 w' => ∃ (x3_1 : Int), v3 = .int .i64 x3_1 ∧ Aside0 (mandrelref06_Text.l0 kq l0 x3_1 = some r) ∧ Aside0 (kq ≤ k) ∧ Drawn0 w w')
 case atStart => exact ⟨(0), (by first | rfl | (simp; done) | (simp [*]; done)), H', ⟨Nat.le_refl _⟩, by repeat (first | exact Drawn0.refl _ | apply Drawn0.step)⟩
 case round =>
  clear H'
  obtain ⟨x3_1, rfl, HA, HK1, ⟨m1, rfl⟩⟩ := hrel
  cases gk with
  | zero => exact absurd HA.out (by simp [mandrelref06_Text.l0])
  | succ k1 =>
   have H := HA.out
   clear HA
   simp only [mandrelref06_Text.l0] at H
   by_cases c2 : x3_1 < (l0.length : Int)
   ·rw [if_pos c2] at H
    have c2b0 : decide (x3_1 < (l0.length : Int)) = true := decide_eq_true c2
    clear c2
    have HC3 := Aside0.mk H
    clear H
    go_upto_block 2 with (fail)
    repeat (go_quiet (fail); go_upto_block 2 with (fail))
    go_cut [3, 4, 5] (fun v3 v4 v5 wc => ∃ (kq : Nat) (x3_2 : Int) (x4_2 : Int) (x5_2 : Int), v3 = .int .i64 x3_2 ∧ v4 = .int .i64 x4_2 ∧ v5 = .int .i64 x5_2 ∧ Aside0 (mandrelref06_Text.j3 kq l0 x3_2 x4_2 x5_2 = some r) ∧ Aside0 (kq ≤ k1) ∧ Drawn0 w wc)
    case first =>
     have H := HC3.out
     clear HC3
     by_cases c4 : 0 ≤ x3_1
     ·rw [if_pos c4] at H
      have c4b0 : decide (0 ≤ x3_1) = true := decide_eq_true c4
      clear c4
      (first | rw [c4b0] | (simp only [i64_w, i32_w]; rw [c4b0]) | skip)
      by_cases c5 : (rd l0 x3_1) < 128
      ·rw [if_pos c5] at H
       have c5b0 : decide ((rd l0 x3_1) < 128) = true := decide_eq_true c5
       clear c5
       have H' := Aside0.mk H
       clear H
       have p261 : 0 ≤ (x3_1 : Int) := of_decide_eq_true (by first | (with_reducible assumption) | assumption)
       have q261 : x3_1 < (l0.length : Int) := of_decide_eq_true (by first | (with_reducible assumption) | assumption)
       obtain ⟨ad261, e261, hx261_0⟩ := Kd.at_int HR0.out x3_1 p261 q261
       cases e261
       replace p261 := eq_true p261
       replace q261 := eq_true q261
       go_wp2
       repeat (go_quiet (fail); try go_wp2)
       go_roundg k1
       case measure => have := HK1.out; omega
       case rel => exact ⟨(wrap64 (x3_1 + 1)), (by first | rfl | (simp; done) | (simp [*]; done)), H', ⟨by have := HK1.out; omega⟩, by repeat (first | exact Drawn0.refl _ | apply Drawn0.step)⟩
      ·rw [if_neg c5] at H
       have c5b0 : decide ((rd l0 x3_1) < 128) = false := decide_eq_false c5
       clear c5
       have HC6 := Aside0.mk H
       clear H
       have p261 : 0 ≤ (x3_1 : Int) := of_decide_eq_true (by first | (with_reducible assumption) | assumption)
       have q261 : x3_1 < (l0.length : Int) := of_decide_eq_true (by first | (with_reducible assumption) | assumption)
       obtain ⟨ad261, e261, hx261_0⟩ := Kd.at_int HR0.out x3_1 p261 q261
       cases e261
       replace p261 := eq_true p261
       replace q261 := eq_true q261
       go_upto_region 7 with (fail)
       repeat (go_quiet (fail); go_upto_region 7 with (fail))
       go_cut [19] (fun v19 wc => ∃ (kq : Nat) (x19_5 : Bool), v19 = .bool x19_5 ∧ Aside0 (mandrelref06_Text.j1 kq l0 x3_1 x19_5 = some r) ∧ Aside0 (kq ≤ k1) ∧ Drawn0 w wc)
       case first =>
        have H := HC6.out
        clear HC6
        by_cases c7 : (rd l0 x3_1) ≥ 192
        ·rw [if_pos c7] at H
         have c7b0 : decide (192 ≤ (rd l0 x3_1)) = true := decide_eq_true c7
         clear c7
         (first | rw [c7b0] | (simp only [i64_w, i32_w]; rw [c7b0]) | skip)
         have H' := Aside0.mk H
         clear H
         have p262 : 0 ≤ (x3_1 : Int) := of_decide_eq_true (by first | (with_reducible assumption) | assumption)
         have q262 : x3_1 < (l0.length : Int) := of_decide_eq_true (by first | (with_reducible assumption) | assumption)
         obtain ⟨ad262, e262, hx262_0⟩ := Kd.at_int HR0.out x3_1 p262 q262
         obtain rfl : ad261 = ad262 := (by injection e262)
         replace p262 := eq_true p262
         replace q262 := eq_true q262
         have p263 : 0 ≤ (x3_1 : Int) := of_decide_eq_true (by first | (with_reducible assumption) | assumption)
         have q263 : x3_1 < (l0.length : Int) := of_decide_eq_true (by first | (with_reducible assumption) | assumption)
         obtain ⟨ad263, e263, hx263_0⟩ := Kd.at_int HR0.out x3_1 p263 q263
         obtain rfl : ad261 = ad263 := (by injection e263)
         replace p263 := eq_true p263
         replace q263 := eq_true q263
         go_wp2
         repeat (go_quiet (fail); try go_wp2)
         go_meet
         case rel => exact ⟨_, (decide ((rd l0 x3_1) < 224)), (by first | rfl | (simp; done) | (simp [*]; done)), H', ⟨by have := HK1.out; first | omega | exact Nat.le_refl _⟩, by repeat (first | exact Drawn0.refl _ | apply Drawn0.step)⟩
        ·rw [if_neg c7] at H
         have c7b0 : decide (192 ≤ (rd l0 x3_1)) = false := decide_eq_false c7
         clear c7
         (first | rw [c7b0] | (simp only [i64_w, i32_w]; rw [c7b0]) | skip)
         have H' := Aside0.mk H
         clear H
         have p262 : 0 ≤ (x3_1 : Int) := of_decide_eq_true (by first | (with_reducible assumption) | assumption)
         have q262 : x3_1 < (l0.length : Int) := of_decide_eq_true (by first | (with_reducible assumption) | assumption)
         obtain ⟨ad262, e262, hx262_0⟩ := Kd.at_int HR0.out x3_1 p262 q262
         obtain rfl : ad261 = ad262 := (by injection e262)
         replace p262 := eq_true p262
         replace q262 := eq_true q262
         go_wp2
         repeat (go_quiet (fail); try go_wp2)
         go_meet
         case rel => exact ⟨_, (false), (by first | rfl | (simp; done) | (simp [*]; done)), H', ⟨by have := HK1.out; first | omega | exact Nat.le_refl _⟩, by repeat (first | exact Drawn0.refl _ | apply Drawn0.step)⟩
       case rest =>
        clear HC6
        (try clear c2); (try clear c2b0); (try clear p2); (try clear q2); (try clear hx2); (try clear c4); (try clear c4b0); (try clear c5); (try clear c5b0); (try clear p6); (try clear c7); (try clear c7b0); (try clear hx261_0); (try clear hx262_0); (try clear hx263_0); (try clear p261); (try clear p262); (try clear p263); (try clear q261); (try clear q262); (try clear q263)
        obtain ⟨kq, x19_5, rfl, HA, HJ5, ⟨mc5, rfl⟩⟩ := hcut
        cases kq with
        | zero => exact absurd HA.out (by simp [mandrelref06_Text.j1])
        | succ kj5 =>
         have H := HA.out
         clear HA
         simp only [mandrelref06_Text.j1] at H
         by_cases c8 : x19_5 = true
         ·subst c8
          have H1 : (if 0 ≤ x3_1 then (if x3_1 < (l0.length : Int) then (mandrelref06_Text.j3 kj5 l0 x3_1 1 (wrap64 ((wrap64 (rd l0 x3_1)) - 192))) else (none)) else (none)) = some r := by rw [if_pos rfl] at H; exact H
          clear H
          have H := H1
          clear H1
          by_cases c9 : 0 ≤ x3_1
          ·rw [if_pos c9] at H
           have c9b0 : decide (0 ≤ x3_1) = true := decide_eq_true c9
           clear c9
           by_cases c10 : x3_1 < (l0.length : Int)
           ·rw [if_pos c10] at H
            have c10b0 : decide (x3_1 < (l0.length : Int)) = true := decide_eq_true c10
            clear c10
            have H' := Aside0.mk H
            clear H
            have p264 : 0 ≤ (x3_1 : Int) := of_decide_eq_true (by first | (with_reducible assumption) | assumption)
            have q264 : x3_1 < (l0.length : Int) := of_decide_eq_true (by first | (with_reducible assumption) | assumption)
            obtain ⟨ad264, e264, hx264_0⟩ := Kd.at_int HR0.out x3_1 p264 q264
            obtain rfl : ad261 = ad264 := (by injection e264)
            replace p264 := eq_true p264
            replace q264 := eq_true q264
            go_wp2
            repeat (go_quiet (fail); try go_wp2)
            go_meet
            case rel => exact ⟨_, (x3_1), (1), (wrap64 ((wrap64 (rd l0 x3_1)) - 192)), (by first | rfl | (simp; done) | (simp [*]; done)), (by first | rfl | (simp; done) | (simp [*]; done)), (by first | rfl | (simp; done) | (simp [*]; done)), H', ⟨by have := HK1.out; have := HJ5.out; first | omega | exact Nat.le_refl _⟩, by repeat (first | exact Drawn0.refl _ | apply Drawn0.step)⟩
           ·rw [if_neg c10] at H
            exact absurd H (by simp)
          ·rw [if_neg c9] at H
           exact absurd H (by simp)
         ·replace c8 := Bool.eq_false_iff.mpr c8
          subst c8
          have H1 : (if 0 ≤ x3_1 then (if x3_1 < (l0.length : Int) then (if (rd l0 x3_1) ≥ 224 then (mandrelref06_Text.j2 kj5 l0 x3_1 (decide ((rd l0 x3_1) < 240))) else (mandrelref06_Text.j2 kj5 l0 x3_1 false)) else (none)) else (none)) = some r := by rw [if_neg (show ¬ (false = true) by decide)] at H; exact H
          clear H
          have H := H1
          clear H1
          have HC11 := Aside0.mk H
          clear H
          go_upto_region 9 with (fail)
          repeat (go_quiet (fail); go_upto_region 9 with (fail))
          go_cut [38] (fun v38 wc => ∃ (kq : Nat) (x38_10 : Bool), v38 = .bool x38_10 ∧ Aside0 (mandrelref06_Text.j2 kq l0 x3_1 x38_10 = some r) ∧ Aside0 (kq ≤ kj5) ∧ Drawn0 w wc)
          case first =>
           have H := HC11.out
           clear HC11
           by_cases c12 : 0 ≤ x3_1
           ·rw [if_pos c12] at H
            have c12b0 : decide (0 ≤ x3_1) = true := decide_eq_true c12
            clear c12
            (first | rw [c12b0] | (simp only [i64_w, i32_w]; rw [c12b0]) | skip)
            by_cases c13 : x3_1 < (l0.length : Int)
            ·rw [if_pos c13] at H
             have c13b0 : decide (x3_1 < (l0.length : Int)) = true := decide_eq_true c13
             clear c13
             by_cases c14 : (rd l0 x3_1) ≥ 224
             ·rw [if_pos c14] at H
              have c14b0 : decide (224 ≤ (rd l0 x3_1)) = true := decide_eq_true c14
              clear c14
              have H' := Aside0.mk H
              clear H
              have p265 : 0 ≤ (x3_1 : Int) := of_decide_eq_true (by first | (with_reducible assumption) | assumption)
              have q265 : x3_1 < (l0.length : Int) := of_decide_eq_true (by first | (with_reducible assumption) | assumption)
              obtain ⟨ad265, e265, hx265_0⟩ := Kd.at_int HR0.out x3_1 p265 q265
              obtain rfl : ad261 = ad265 := (by injection e265)
              replace p265 := eq_true p265
              replace q265 := eq_true q265
              have p266 : 0 ≤ (x3_1 : Int) := of_decide_eq_true (by first | (with_reducible assumption) | assumption)
              have q266 : x3_1 < (l0.length : Int) := of_decide_eq_true (by first | (with_reducible assumption) | assumption)
              obtain ⟨ad266, e266, hx266_0⟩ := Kd.at_int HR0.out x3_1 p266 q266
              obtain rfl : ad261 = ad266 := (by injection e266)
              replace p266 := eq_true p266
              replace q266 := eq_true q266
              go_wp2
              repeat (go_quiet (fail); try go_wp2)
              go_meet
              case rel => exact ⟨_, (decide ((rd l0 x3_1) < 240)), (by first | rfl | (simp; done) | (simp [*]; done)), H', ⟨by have := HK1.out; have := HJ5.out; first | omega | exact Nat.le_refl _⟩, by repeat (first | exact Drawn0.refl _ | apply Drawn0.step)⟩
             ·rw [if_neg c14] at H
              have c14b0 : decide (224 ≤ (rd l0 x3_1)) = false := decide_eq_false c14
              clear c14
              have H' := Aside0.mk H
              clear H
              have p265 : 0 ≤ (x3_1 : Int) := of_decide_eq_true (by first | (with_reducible assumption) | assumption)
              have q265 : x3_1 < (l0.length : Int) := of_decide_eq_true (by first | (with_reducible assumption) | assumption)
              obtain ⟨ad265, e265, hx265_0⟩ := Kd.at_int HR0.out x3_1 p265 q265
              obtain rfl : ad261 = ad265 := (by injection e265)
              replace p265 := eq_true p265
              replace q265 := eq_true q265
              go_wp2
              repeat (go_quiet (fail); try go_wp2)
              go_meet
              case rel => exact ⟨_, (false), (by first | rfl | (simp; done) | (simp [*]; done)), H', ⟨by have := HK1.out; have := HJ5.out; first | omega | exact Nat.le_refl _⟩, by repeat (first | exact Drawn0.refl _ | apply Drawn0.step)⟩
            ·rw [if_neg c13] at H
             exact absurd H (by simp)
           ·rw [if_neg c12] at H
            exact absurd H (by simp)
          case rest =>
           clear HC11
           (try clear c1); (try clear c2); (try clear c2b0); (try clear p2); (try clear q2); (try clear hx2); (try clear c4); (try clear c4b0); (try clear c5); (try clear c5b0); (try clear p6); (try clear c7); (try clear c7b0); (try clear c8); (try clear c9); (try clear c9b0); (try clear c10); (try clear c10b0); (try clear c12); (try clear c12b0); (try clear c13); (try clear c13b0); (try clear c14); (try clear c14b0); (try clear hx261_0); (try clear hx262_0); (try clear hx263_0); (try clear hx264_0); (try clear hx265_0); (try clear hx266_0); (try clear p2); (try clear p261); (try clear p262); (try clear p263); (try clear p264); (try clear p265); (try clear p266); (try clear p6); (try clear q2); (try clear q261); (try clear q262); (try clear q263); (try clear q264); (try clear q265); (try clear q266)
           obtain ⟨kq, x38_10, rfl, HA, HJ10, ⟨mc10, rfl⟩⟩ := hcut
           cases kq with
           | zero => exact absurd HA.out (by simp [mandrelref06_Text.j2])
           | succ kj10 =>
            have H := HA.out
            clear HA
            simp only [mandrelref06_Text.j2] at H
            by_cases c15 : x38_10 = true
            ·subst c15
             have H1 : (if 0 ≤ x3_1 then (if x3_1 < (l0.length : Int) then (mandrelref06_Text.j3 kj10 l0 x3_1 2 (wrap64 ((wrap64 (rd l0 x3_1)) - 224))) else (none)) else (none)) = some r := by rw [if_pos rfl] at H; exact H
             clear H
             have H := H1
             clear H1
             by_cases c16 : 0 ≤ x3_1
             ·rw [if_pos c16] at H
              have c16b0 : decide (0 ≤ x3_1) = true := decide_eq_true c16
              clear c16
              by_cases c17 : x3_1 < (l0.length : Int)
              ·rw [if_pos c17] at H
               have c17b0 : decide (x3_1 < (l0.length : Int)) = true := decide_eq_true c17
               clear c17
               have H' := Aside0.mk H
               clear H
               have p267 : 0 ≤ (x3_1 : Int) := of_decide_eq_true (by first | (with_reducible assumption) | assumption)
               have q267 : x3_1 < (l0.length : Int) := of_decide_eq_true (by first | (with_reducible assumption) | assumption)
               obtain ⟨ad267, e267, hx267_0⟩ := Kd.at_int HR0.out x3_1 p267 q267
               obtain rfl : ad261 = ad267 := (by injection e267)
               replace p267 := eq_true p267
               replace q267 := eq_true q267
               go_wp2
               repeat (go_quiet (fail); try go_wp2)
               go_meet
               case rel => exact ⟨_, (x3_1), (2), (wrap64 ((wrap64 (rd l0 x3_1)) - 224)), (by first | rfl | (simp; done) | (simp [*]; done)), (by first | rfl | (simp; done) | (simp [*]; done)), (by first | rfl | (simp; done) | (simp [*]; done)), H', ⟨by have := HK1.out; have := HJ5.out; have := HJ10.out; first | omega | exact Nat.le_refl _⟩, by repeat (first | exact Drawn0.refl _ | apply Drawn0.step)⟩
              ·rw [if_neg c17] at H
               exact absurd H (by simp)
             ·rw [if_neg c16] at H
              exact absurd H (by simp)
            ·replace c15 := Bool.eq_false_iff.mpr c15
             subst c15
             have H1 : (if 0 ≤ x3_1 then (if x3_1 < (l0.length : Int) then (if (rd l0 x3_1) ≥ 240 then (if (rd l0 x3_1) < 248 then (mandrelref06_Text.j3 kj10 l0 x3_1 3 (wrap64 ((wrap64 (rd l0 x3_1)) - 240))) else (some false)) else (some false)) else (none)) else (none)) = some r := by rw [if_neg (show ¬ (false = true) by decide)] at H; exact H
             clear H
             have H := H1
             clear H1
             by_cases c18 : 0 ≤ x3_1
             ·rw [if_pos c18] at H
              have c18b0 : decide (0 ≤ x3_1) = true := decide_eq_true c18
              clear c18
              by_cases c19 : x3_1 < (l0.length : Int)
              ·rw [if_pos c19] at H
               have c19b0 : decide (x3_1 < (l0.length : Int)) = true := decide_eq_true c19
               clear c19
               by_cases c20 : (rd l0 x3_1) ≥ 240
               ·rw [if_pos c20] at H
                have c20b0 : decide (240 ≤ (rd l0 x3_1)) = true := decide_eq_true c20
                clear c20
                by_cases c21 : (rd l0 x3_1) < 248
                ·rw [if_pos c21] at H
                 have c21b0 : decide ((rd l0 x3_1) < 248) = true := decide_eq_true c21
                 clear c21
                 have H' := Aside0.mk H
                 clear H
                 have p268 : 0 ≤ (x3_1 : Int) := of_decide_eq_true (by first | (with_reducible assumption) | assumption)
                 have q268 : x3_1 < (l0.length : Int) := of_decide_eq_true (by first | (with_reducible assumption) | assumption)
                 obtain ⟨ad268, e268, hx268_0⟩ := Kd.at_int HR0.out x3_1 p268 q268
                 obtain rfl : ad261 = ad268 := (by injection e268)
                 replace p268 := eq_true p268
                 replace q268 := eq_true q268
                 have p269 : 0 ≤ (x3_1 : Int) := of_decide_eq_true (by first | (with_reducible assumption) | assumption)
                 have q269 : x3_1 < (l0.length : Int) := of_decide_eq_true (by first | (with_reducible assumption) | assumption)
                 obtain ⟨ad269, e269, hx269_0⟩ := Kd.at_int HR0.out x3_1 p269 q269
                 obtain rfl : ad261 = ad269 := (by injection e269)
                 replace p269 := eq_true p269
                 replace q269 := eq_true q269
                 have p270 : 0 ≤ (x3_1 : Int) := of_decide_eq_true (by first | (with_reducible assumption) | assumption)
                 have q270 : x3_1 < (l0.length : Int) := of_decide_eq_true (by first | (with_reducible assumption) | assumption)
                 obtain ⟨ad270, e270, hx270_0⟩ := Kd.at_int HR0.out x3_1 p270 q270
                 obtain rfl : ad261 = ad270 := (by injection e270)
                 replace p270 := eq_true p270
                 replace q270 := eq_true q270
                 go_wp2
                 repeat (go_quiet (fail); try go_wp2)
                 go_meet
                 case rel => exact ⟨_, (x3_1), (3), (wrap64 ((wrap64 (rd l0 x3_1)) - 240)), (by first | rfl | (simp; done) | (simp [*]; done)), (by first | rfl | (simp; done) | (simp [*]; done)), (by first | rfl | (simp; done) | (simp [*]; done)), H', ⟨by have := HK1.out; have := HJ5.out; have := HJ10.out; first | omega | exact Nat.le_refl _⟩, by repeat (first | exact Drawn0.refl _ | apply Drawn0.step)⟩
                ·rw [if_neg c21] at H
                 have c21b0 : decide ((rd l0 x3_1) < 248) = false := decide_eq_false c21
                 clear c21
                 obtain rfl := Option.some.inj H
                 have p268 : 0 ≤ (x3_1 : Int) := of_decide_eq_true (by first | (with_reducible assumption) | assumption)
                 have q268 : x3_1 < (l0.length : Int) := of_decide_eq_true (by first | (with_reducible assumption) | assumption)
                 obtain ⟨ad268, e268, hx268_0⟩ := Kd.at_int HR0.out x3_1 p268 q268
                 obtain rfl : ad261 = ad268 := (by injection e268)
                 replace p268 := eq_true p268
                 replace q268 := eq_true q268
                 have p269 : 0 ≤ (x3_1 : Int) := of_decide_eq_true (by first | (with_reducible assumption) | assumption)
                 have q269 : x3_1 < (l0.length : Int) := of_decide_eq_true (by first | (with_reducible assumption) | assumption)
                 obtain ⟨ad269, e269, hx269_0⟩ := Kd.at_int HR0.out x3_1 p269 q269
                 obtain rfl : ad261 = ad269 := (by injection e269)
                 replace p269 := eq_true p269
                 replace q269 := eq_true q269
                 go_wp2
                 repeat (go_quiet (fail); try go_wp2)
                 go_ret
                 exact ⟨by first | rfl | (simp; done) | (simp [*]; done), by repeat (first | exact Drawn0.refl _ | apply Drawn0.step)⟩
               ·rw [if_neg c20] at H
                have c20b0 : decide (240 ≤ (rd l0 x3_1)) = false := decide_eq_false c20
                clear c20
                obtain rfl := Option.some.inj H
                have p268 : 0 ≤ (x3_1 : Int) := of_decide_eq_true (by first | (with_reducible assumption) | assumption)
                have q268 : x3_1 < (l0.length : Int) := of_decide_eq_true (by first | (with_reducible assumption) | assumption)
                obtain ⟨ad268, e268, hx268_0⟩ := Kd.at_int HR0.out x3_1 p268 q268
                obtain rfl : ad261 = ad268 := (by injection e268)
                replace p268 := eq_true p268
                replace q268 := eq_true q268
                go_wp2
                repeat (go_quiet (fail); try go_wp2)
                go_ret
                exact ⟨by first | rfl | (simp; done) | (simp [*]; done), by repeat (first | exact Drawn0.refl _ | apply Drawn0.step)⟩
              ·rw [if_neg c19] at H
               exact absurd H (by simp)
             ·rw [if_neg c18] at H
              exact absurd H (by simp)
     ·rw [if_neg c4] at H
      exact absurd H (by simp)
    case rest =>
     clear HC3
     (try clear c1); (try clear c2); (try clear c2b0); (try clear p2); (try clear q2); (try clear hx2); (try clear c4); (try clear c4b0); (try clear c5); (try clear c5b0); (try clear p6); (try clear c7); (try clear c7b0); (try clear c8); (try clear c9); (try clear c9b0); (try clear c10); (try clear c10b0); (try clear c12); (try clear c12b0); (try clear c13); (try clear c13b0); (try clear c14); (try clear c14b0); (try clear c15); (try clear c16); (try clear c16b0); (try clear c17); (try clear c17b0); (try clear c18); (try clear c18b0); (try clear c19); (try clear c19b0); (try clear c20); (try clear c20b0); (try clear c21); (try clear c21b0); (try clear hx261_0); (try clear hx262_0); (try clear hx263_0); (try clear hx264_0); (try clear hx265_0); (try clear hx266_0); (try clear hx267_0); (try clear hx268_0); (try clear hx269_0); (try clear hx270_0); (try clear p2); (try clear p261); (try clear p262); (try clear p263); (try clear p264); (try clear p265); (try clear p266); (try clear p267); (try clear p268)
     (try clear p269); (try clear p270); (try clear p6); (try clear q2); (try clear q261); (try clear q262); (try clear q263); (try clear q264); (try clear q265); (try clear q266); (try clear q267); (try clear q268); (try clear q269); (try clear q270)
     obtain ⟨kq, x3_2, x4_2, x5_2, rfl, rfl, rfl, HA, HJ2, ⟨mc2, rfl⟩⟩ := hcut
     cases kq with
     | zero => exact absurd HA.out (by simp [mandrelref06_Text.j3])
     | succ kj2 =>
      have H := HA.out
      clear HA
      simp only [mandrelref06_Text.j3] at H
      have H' := Aside0.mk H
      clear H
      go_wp2
      repeat (go_quiet (fail); try go_wp2)
      go_loopg [5, 6] kj2 (fun kq v5 v6 w' => ∃ (x5_3 : Int) (x6_3 : Int), v5 = .int .i64 x5_3 ∧ v6 = .int .i64 x6_3 ∧ Aside0 (mandrelref06_Text.l1 kq l0 x3_2 x4_2 x5_3 x6_3 = some r) ∧ Aside0 (kq ≤ kj2) ∧ Drawn0 w w')
      case atStart => exact ⟨(x5_2), (1), (by first | rfl | (simp; done) | (simp [*]; done)), (by first | rfl | (simp; done) | (simp [*]; done)), H', ⟨Nat.le_refl _⟩, by repeat (first | exact Drawn0.refl _ | apply Drawn0.step)⟩
      case round =>
       clear H'
       (try clear c1); (try clear c2); (try clear c2b0); (try clear p2); (try clear q2); (try clear hx2); (try clear c4); (try clear c4b0); (try clear c5); (try clear c5b0); (try clear p6); (try clear c7); (try clear c7b0); (try clear c8); (try clear c9); (try clear c9b0); (try clear c10); (try clear c10b0); (try clear c12); (try clear c12b0); (try clear c13); (try clear c13b0); (try clear c14); (try clear c14b0); (try clear c15); (try clear c16); (try clear c16b0); (try clear c17); (try clear c17b0); (try clear c18); (try clear c18b0); (try clear c19); (try clear c19b0); (try clear c20); (try clear c20b0); (try clear c21); (try clear c21b0); (try clear hx261_0); (try clear hx262_0); (try clear hx263_0); (try clear hx264_0); (try clear hx265_0); (try clear hx266_0); (try clear hx267_0); (try clear hx268_0); (try clear hx269_0); (try clear hx270_0); (try clear p2); (try clear p261); (try clear p262); (try clear p263); (try clear p264); (try clear p265); (try clear p266); (try clear p267); (try clear p268)
       (try clear p269); (try clear p270); (try clear p6); (try clear q2); (try clear q261); (try clear q262); (try clear q263); (try clear q264); (try clear q265); (try clear q266); (try clear q267); (try clear q268); (try clear q269); (try clear q270)
       obtain ⟨x5_3, x6_3, rfl, rfl, HA, HK3, ⟨m3, rfl⟩⟩ := hrel
       cases gk with
       | zero => exact absurd HA.out (by simp [mandrelref06_Text.l1])
       | succ k3 =>
        have H := HA.out
        clear HA
        simp only [mandrelref06_Text.l1] at H
        by_cases c22 : x6_3 ≤ x4_2
        ·rw [if_pos c22] at H
         have c22b0 : decide (x6_3 ≤ x4_2) = true := decide_eq_true c22
         clear c22
         by_cases c23 : (wrap64 (x3_2 + x6_3)) ≥ (l0.length : Int)
         ·rw [if_pos c23] at H
          have c23b0 : decide ((l0.length : Int) ≤ (wrap64 (x3_2 + x6_3))) = true := decide_eq_true c23
          clear c23
          obtain rfl := Option.some.inj H
          go_wp2
          repeat (go_quiet (fail); try go_wp2)
          go_ret
          exact ⟨by first | rfl | (simp; done) | (simp [*]; done), by repeat (first | exact Drawn0.refl _ | apply Drawn0.step)⟩
         ·rw [if_neg c23] at H
          have c23b0 : decide ((l0.length : Int) ≤ (wrap64 (x3_2 + x6_3))) = false := decide_eq_false c23
          clear c23
          obtain ⟨ji24, hji24⟩ : ∃ j_ : Int, (wrap64 (x3_2 + x6_3)) = j_ := ⟨_, rfl⟩
          replace H : (if 0 ≤ (ji24) then (if (ji24) < (l0.length : Int) then (if (rd l0 (ji24)) < 128 then (some false) else (if (rd l0 (ji24)) > 191 then (some false) else (mandrelref06_Text.l1 k3 l0 x3_2 x4_2 (wrap64 ((wrap64 ((wrap64 (64 * x5_3)) + (wrap64 (rd l0 (ji24))))) - 128)) (wrap64 (x6_3 + 1))))) else (none)) else (none)) = some r := by first | (rw [hji24] at H; exact H) | (simp only [hji24] at H ⊢; exact H)
          (try rw [hji24] at c23b0)
          have hji24w : (IntKind.i64.wrap (x3_2 + x6_3)) = ji24 := (i64_w _).trans hji24
          by_cases c25 : 0 ≤ (ji24)
          ·rw [if_pos c25] at H
           have c25b0 : decide (0 ≤ (ji24)) = true := decide_eq_true c25
           clear c25
           by_cases c26 : (ji24) < (l0.length : Int)
           ·rw [if_pos c26] at H
            have c26b0 : decide ((ji24) < (l0.length : Int)) = true := decide_eq_true c26
            clear c26
            by_cases c27 : (rd l0 (ji24)) < 128
            ·rw [if_pos c27] at H
             have c27b0 : decide ((rd l0 (ji24)) < 128) = true := decide_eq_true c27
             clear c27
             obtain rfl := Option.some.inj H
             have p271 : 0 ≤ ((ji24) : Int) := of_decide_eq_true (by first | (with_reducible assumption) | assumption)
             have q271 : (ji24) < (l0.length : Int) := of_decide_eq_true (by first | (with_reducible assumption) | assumption)
             obtain ⟨ad271, e271, hx271_0⟩ := Kd.at_int HR0.out (ji24) p271 q271
             cases e271
             replace p271 := eq_true p271
             replace q271 := eq_true q271
             go_wp2
             repeat (go_quiet (fail); try go_wp2)
             go_ret
             exact ⟨by first | rfl | (simp; done) | (simp only [← hji24] <;> (first | rfl | simp)) | (simp [*]; done), by repeat (first | exact Drawn0.refl _ | apply Drawn0.step)⟩
            ·rw [if_neg c27] at H
             have c27b0 : decide ((rd l0 (ji24)) < 128) = false := decide_eq_false c27
             clear c27
             by_cases c28 : (rd l0 (ji24)) > 191
             ·rw [if_pos c28] at H
              have c28b0 : decide (191 < (rd l0 (ji24))) = true := decide_eq_true c28
              clear c28
              obtain rfl := Option.some.inj H
              have p271 : 0 ≤ ((ji24) : Int) := of_decide_eq_true (by first | (with_reducible assumption) | assumption)
              have q271 : (ji24) < (l0.length : Int) := of_decide_eq_true (by first | (with_reducible assumption) | assumption)
              obtain ⟨ad271, e271, hx271_0⟩ := Kd.at_int HR0.out (ji24) p271 q271
              cases e271
              replace p271 := eq_true p271
              replace q271 := eq_true q271
              have p272 : 0 ≤ ((ji24) : Int) := of_decide_eq_true (by first | (with_reducible assumption) | assumption)
              have q272 : (ji24) < (l0.length : Int) := of_decide_eq_true (by first | (with_reducible assumption) | assumption)
              obtain ⟨ad272, e272, hx272_0⟩ := Kd.at_int HR0.out (ji24) p272 q272
              obtain rfl : ad271 = ad272 := (by injection e272)
              replace p272 := eq_true p272
              replace q272 := eq_true q272
              go_wp2
              repeat (go_quiet (fail); try go_wp2)
              go_ret
              exact ⟨by first | rfl | (simp; done) | (simp only [← hji24] <;> (first | rfl | simp)) | (simp [*]; done), by repeat (first | exact Drawn0.refl _ | apply Drawn0.step)⟩
             ·rw [if_neg c28] at H
              have c28b0 : decide (191 < (rd l0 (ji24))) = false := decide_eq_false c28
              clear c28
              have H' := Aside0.mk H
              clear H
              have p271 : 0 ≤ ((ji24) : Int) := of_decide_eq_true (by first | (with_reducible assumption) | assumption)
              have q271 : (ji24) < (l0.length : Int) := of_decide_eq_true (by first | (with_reducible assumption) | assumption)
              obtain ⟨ad271, e271, hx271_0⟩ := Kd.at_int HR0.out (ji24) p271 q271
              cases e271
              replace p271 := eq_true p271
              replace q271 := eq_true q271
              have p272 : 0 ≤ ((ji24) : Int) := of_decide_eq_true (by first | (with_reducible assumption) | assumption)
              have q272 : (ji24) < (l0.length : Int) := of_decide_eq_true (by first | (with_reducible assumption) | assumption)
              obtain ⟨ad272, e272, hx272_0⟩ := Kd.at_int HR0.out (ji24) p272 q272
              obtain rfl : ad271 = ad272 := (by injection e272)
              replace p272 := eq_true p272
              replace q272 := eq_true q272
              have p273 : 0 ≤ ((ji24) : Int) := of_decide_eq_true (by first | (with_reducible assumption) | assumption)
              have q273 : (ji24) < (l0.length : Int) := of_decide_eq_true (by first | (with_reducible assumption) | assumption)
              obtain ⟨ad273, e273, hx273_0⟩ := Kd.at_int HR0.out (ji24) p273 q273
              obtain rfl : ad271 = ad273 := (by injection e273)
              replace p273 := eq_true p273
              replace q273 := eq_true q273
              go_wp2
              repeat (go_quiet (fail); try go_wp2)
              go_roundg k3
              case measure => have := HK1.out; have := HJ2.out; have := HK3.out; omega
              case rel => exact ⟨(wrap64 ((wrap64 ((wrap64 (64 * x5_3)) + (wrap64 (rd l0 (ji24))))) - 128)), (wrap64 (x6_3 + 1)), (by first | rfl | (simp; done) | (simp only [← hji24] <;> (first | rfl | simp)) | (simp [*]; done)), (by first | rfl | (simp; done) | (simp [*]; done)), H', ⟨by have := HK1.out; have := HJ2.out; have := HK3.out; omega⟩, by repeat (first | exact Drawn0.refl _ | apply Drawn0.step)⟩
           ·rw [if_neg c26] at H
            exact absurd H (by simp)
          ·rw [if_neg c25] at H
           exact absurd H (by simp)
        ·rw [if_neg c22] at H
         have c22b0 : decide (x6_3 ≤ x4_2) = false := decide_eq_false c22
         clear c22
         by_cases c29 : x4_2 = 1
         ·rw [if_pos c29] at H
          have c29b0 : (x4_2 == 1) = true := beq_iff_eq.mpr c29
          have c29b1 : (x4_2 != 1) = false := bne_eq_false_iff_eq.mpr c29
          have c29b2 : ∀ z_ : Int, z_ ≠ 1 → (x4_2 == z_) = false := fun z_ hz_ => beq_eq_false_iff_ne.mpr (fun e_ => hz_ (e_.symm.trans c29))
          clear c29
          by_cases c30 : x5_3 < 128
          ·rw [if_pos c30] at H
           have c30b0 : decide (x5_3 < 128) = true := decide_eq_true c30
           clear c30
           obtain rfl := Option.some.inj H
           go_wp2
           repeat (go_quiet (fail); try go_wp2)
           go_ret
           exact ⟨by first | rfl | (simp; done) | (simp [*]; done), by repeat (first | exact Drawn0.refl _ | apply Drawn0.step)⟩
          ·rw [if_neg c30] at H
           have c30b0 : decide (x5_3 < 128) = false := decide_eq_false c30
           clear c30
           by_cases c31 : x5_3 > 1114111
           ·rw [if_pos c31] at H
            have c31b0 : decide (1114111 < x5_3) = true := decide_eq_true c31
            clear c31
            obtain rfl := Option.some.inj H
            go_wp2
            repeat (go_quiet (fail); try go_wp2)
            go_ret
            exact ⟨by first | rfl | (simp; done) | (simp [*]; done), by repeat (first | exact Drawn0.refl _ | apply Drawn0.step)⟩
           ·rw [if_neg c31] at H
            have c31b0 : decide (1114111 < x5_3) = false := decide_eq_false c31
            clear c31
            by_cases c32 : x5_3 ≥ 55296
            ·rw [if_pos c32] at H
             have c32b0 : decide (55296 ≤ x5_3) = true := decide_eq_true c32
             clear c32
             by_cases c33 : x5_3 < 57344
             ·rw [if_pos c33] at H
              have c33b0 : decide (x5_3 < 57344) = true := decide_eq_true c33
              clear c33
              obtain rfl := Option.some.inj H
              go_wp2
              repeat (go_quiet (fail); try go_wp2)
              go_ret
              exact ⟨by first | rfl | (simp; done) | (simp [*]; done), by repeat (first | exact Drawn0.refl _ | apply Drawn0.step)⟩
             ·rw [if_neg c33] at H
              have c33b0 : decide (x5_3 < 57344) = false := decide_eq_false c33
              clear c33
              have H' := Aside0.mk H
              clear H
              go_wp2
              repeat (go_quiet (fail); try go_wp2)
              go_roundg k3
              case measure => have := HK1.out; have := HJ2.out; have := HK3.out; omega
              case rel => exact ⟨(wrap64 ((wrap64 (x3_2 + x4_2)) + 1)), (by first | rfl | (simp; done) | (simp [*]; done)), H', ⟨by have := HK1.out; have := HJ2.out; have := HK3.out; omega⟩, by repeat (first | exact Drawn0.refl _ | apply Drawn0.step)⟩
            ·rw [if_neg c32] at H
             have c32b0 : decide (55296 ≤ x5_3) = false := decide_eq_false c32
             clear c32
             have H' := Aside0.mk H
             clear H
             go_wp2
             repeat (go_quiet (fail); try go_wp2)
             go_roundg k3
             case measure => have := HK1.out; have := HJ2.out; have := HK3.out; omega
             case rel => exact ⟨(wrap64 ((wrap64 (x3_2 + x4_2)) + 1)), (by first | rfl | (simp; done) | (simp [*]; done)), H', ⟨by have := HK1.out; have := HJ2.out; have := HK3.out; omega⟩, by repeat (first | exact Drawn0.refl _ | apply Drawn0.step)⟩
         ·rw [if_neg c29] at H
          have c29b0 : (x4_2 == 1) = false := beq_eq_false_iff_ne.mpr c29
          have c29b1 : (x4_2 != 1) = true := bne_iff_ne.mpr c29
          by_cases c34 : x4_2 = 2
          ·rw [if_pos c34] at H
           have c34b0 : (x4_2 == 2) = true := beq_iff_eq.mpr c34
           have c34b1 : (x4_2 != 2) = false := bne_eq_false_iff_eq.mpr c34
           have c34b2 : ∀ z_ : Int, z_ ≠ 2 → (x4_2 == z_) = false := fun z_ hz_ => beq_eq_false_iff_ne.mpr (fun e_ => hz_ (e_.symm.trans c34))
           clear c34
           by_cases c35 : x5_3 < 2048
           ·rw [if_pos c35] at H
            have c35b0 : decide (x5_3 < 2048) = true := decide_eq_true c35
            clear c35
            obtain rfl := Option.some.inj H
            go_wp2
            repeat (go_quiet (fail); try go_wp2)
            go_ret
            exact ⟨by first | rfl | (simp; done) | (simp [*]; done), by repeat (first | exact Drawn0.refl _ | apply Drawn0.step)⟩
           ·rw [if_neg c35] at H
            have c35b0 : decide (x5_3 < 2048) = false := decide_eq_false c35
            clear c35
            by_cases c36 : x5_3 > 1114111
            ·rw [if_pos c36] at H
             have c36b0 : decide (1114111 < x5_3) = true := decide_eq_true c36
             clear c36
             obtain rfl := Option.some.inj H
             go_wp2
             repeat (go_quiet (fail); try go_wp2)
             go_ret
             exact ⟨by first | rfl | (simp; done) | (simp [*]; done), by repeat (first | exact Drawn0.refl _ | apply Drawn0.step)⟩
            ·rw [if_neg c36] at H
             have c36b0 : decide (1114111 < x5_3) = false := decide_eq_false c36
             clear c36
             by_cases c37 : x5_3 ≥ 55296
             ·rw [if_pos c37] at H
              have c37b0 : decide (55296 ≤ x5_3) = true := decide_eq_true c37
              clear c37
              by_cases c38 : x5_3 < 57344
              ·rw [if_pos c38] at H
               have c38b0 : decide (x5_3 < 57344) = true := decide_eq_true c38
               clear c38
               obtain rfl := Option.some.inj H
               go_wp2
               repeat (go_quiet (fail); try go_wp2)
               go_ret
               exact ⟨by first | rfl | (simp; done) | (simp [*]; done), by repeat (first | exact Drawn0.refl _ | apply Drawn0.step)⟩
              ·rw [if_neg c38] at H
               have c38b0 : decide (x5_3 < 57344) = false := decide_eq_false c38
               clear c38
               have H' := Aside0.mk H
               clear H
               go_wp2
               repeat (go_quiet (fail); try go_wp2)
               go_roundg k3
               case measure => have := HK1.out; have := HJ2.out; have := HK3.out; omega
               case rel => exact ⟨(wrap64 ((wrap64 (x3_2 + x4_2)) + 1)), (by first | rfl | (simp; done) | (simp [*]; done)), H', ⟨by have := HK1.out; have := HJ2.out; have := HK3.out; omega⟩, by repeat (first | exact Drawn0.refl _ | apply Drawn0.step)⟩
             ·rw [if_neg c37] at H
              have c37b0 : decide (55296 ≤ x5_3) = false := decide_eq_false c37
              clear c37
              have H' := Aside0.mk H
              clear H
              go_wp2
              repeat (go_quiet (fail); try go_wp2)
              go_roundg k3
              case measure => have := HK1.out; have := HJ2.out; have := HK3.out; omega
              case rel => exact ⟨(wrap64 ((wrap64 (x3_2 + x4_2)) + 1)), (by first | rfl | (simp; done) | (simp [*]; done)), H', ⟨by have := HK1.out; have := HJ2.out; have := HK3.out; omega⟩, by repeat (first | exact Drawn0.refl _ | apply Drawn0.step)⟩
          ·rw [if_neg c34] at H
           have c34b0 : (x4_2 == 2) = false := beq_eq_false_iff_ne.mpr c34
           have c34b1 : (x4_2 != 2) = true := bne_iff_ne.mpr c34
           by_cases c39 : x4_2 = 3
           ·rw [if_pos c39] at H
            have c39b0 : (x4_2 == 3) = true := beq_iff_eq.mpr c39
            have c39b1 : (x4_2 != 3) = false := bne_eq_false_iff_eq.mpr c39
            have c39b2 : ∀ z_ : Int, z_ ≠ 3 → (x4_2 == z_) = false := fun z_ hz_ => beq_eq_false_iff_ne.mpr (fun e_ => hz_ (e_.symm.trans c39))
            clear c39
            by_cases c40 : x5_3 < 65536
            ·rw [if_pos c40] at H
             have c40b0 : decide (x5_3 < 65536) = true := decide_eq_true c40
             clear c40
             obtain rfl := Option.some.inj H
             go_wp2
             repeat (go_quiet (fail); try go_wp2)
             go_ret
             exact ⟨by first | rfl | (simp; done) | (simp [*]; done), by repeat (first | exact Drawn0.refl _ | apply Drawn0.step)⟩
            ·rw [if_neg c40] at H
             have c40b0 : decide (x5_3 < 65536) = false := decide_eq_false c40
             clear c40
             by_cases c41 : x5_3 > 1114111
             ·rw [if_pos c41] at H
              have c41b0 : decide (1114111 < x5_3) = true := decide_eq_true c41
              clear c41
              obtain rfl := Option.some.inj H
              go_wp2
              repeat (go_quiet (fail); try go_wp2)
              go_ret
              exact ⟨by first | rfl | (simp; done) | (simp [*]; done), by repeat (first | exact Drawn0.refl _ | apply Drawn0.step)⟩
             ·rw [if_neg c41] at H
              have c41b0 : decide (1114111 < x5_3) = false := decide_eq_false c41
              clear c41
              by_cases c42 : x5_3 ≥ 55296
              ·rw [if_pos c42] at H
               have c42b0 : decide (55296 ≤ x5_3) = true := decide_eq_true c42
               clear c42
               by_cases c43 : x5_3 < 57344
               ·rw [if_pos c43] at H
                have c43b0 : decide (x5_3 < 57344) = true := decide_eq_true c43
                clear c43
                obtain rfl := Option.some.inj H
                go_wp2
                repeat (go_quiet (fail); try go_wp2)
                go_ret
                exact ⟨by first | rfl | (simp; done) | (simp [*]; done), by repeat (first | exact Drawn0.refl _ | apply Drawn0.step)⟩
               ·rw [if_neg c43] at H
                have c43b0 : decide (x5_3 < 57344) = false := decide_eq_false c43
                clear c43
                have H' := Aside0.mk H
                clear H
                go_wp2
                repeat (go_quiet (fail); try go_wp2)
                go_roundg k3
                case measure => have := HK1.out; have := HJ2.out; have := HK3.out; omega
                case rel => exact ⟨(wrap64 ((wrap64 (x3_2 + x4_2)) + 1)), (by first | rfl | (simp; done) | (simp [*]; done)), H', ⟨by have := HK1.out; have := HJ2.out; have := HK3.out; omega⟩, by repeat (first | exact Drawn0.refl _ | apply Drawn0.step)⟩
              ·rw [if_neg c42] at H
               have c42b0 : decide (55296 ≤ x5_3) = false := decide_eq_false c42
               clear c42
               have H' := Aside0.mk H
               clear H
               go_wp2
               repeat (go_quiet (fail); try go_wp2)
               go_roundg k3
               case measure => have := HK1.out; have := HJ2.out; have := HK3.out; omega
               case rel => exact ⟨(wrap64 ((wrap64 (x3_2 + x4_2)) + 1)), (by first | rfl | (simp; done) | (simp [*]; done)), H', ⟨by have := HK1.out; have := HJ2.out; have := HK3.out; omega⟩, by repeat (first | exact Drawn0.refl _ | apply Drawn0.step)⟩
           ·rw [if_neg c39] at H
            have c39b0 : (x4_2 == 3) = false := beq_eq_false_iff_ne.mpr c39
            have c39b1 : (x4_2 != 3) = true := bne_iff_ne.mpr c39
            by_cases c44 : x5_3 > 1114111
            ·rw [if_pos c44] at H
             have c44b0 : decide (1114111 < x5_3) = true := decide_eq_true c44
             clear c44
             obtain rfl := Option.some.inj H
             go_wp2
             repeat (go_quiet (fail); try go_wp2)
             go_ret
             exact ⟨by first | rfl | (simp; done) | (simp [*]; done), by repeat (first | exact Drawn0.refl _ | apply Drawn0.step)⟩
            ·rw [if_neg c44] at H
             have c44b0 : decide (1114111 < x5_3) = false := decide_eq_false c44
             clear c44
             by_cases c45 : x5_3 ≥ 55296
             ·rw [if_pos c45] at H
              have c45b0 : decide (55296 ≤ x5_3) = true := decide_eq_true c45
              clear c45
              by_cases c46 : x5_3 < 57344
              ·rw [if_pos c46] at H
               have c46b0 : decide (x5_3 < 57344) = true := decide_eq_true c46
               clear c46
               obtain rfl := Option.some.inj H
               go_wp2
               repeat (go_quiet (fail); try go_wp2)
               go_ret
               exact ⟨by first | rfl | (simp; done) | (simp [*]; done), by repeat (first | exact Drawn0.refl _ | apply Drawn0.step)⟩
              ·rw [if_neg c46] at H
               have c46b0 : decide (x5_3 < 57344) = false := decide_eq_false c46
               clear c46
               have H' := Aside0.mk H
               clear H
               go_wp2
               repeat (go_quiet (fail); try go_wp2)
               go_roundg k3
               case measure => have := HK1.out; have := HJ2.out; have := HK3.out; omega
               case rel => exact ⟨(wrap64 ((wrap64 (x3_2 + x4_2)) + 1)), (by first | rfl | (simp; done) | (simp [*]; done)), H', ⟨by have := HK1.out; have := HJ2.out; have := HK3.out; omega⟩, by repeat (first | exact Drawn0.refl _ | apply Drawn0.step)⟩
             ·rw [if_neg c45] at H
              have c45b0 : decide (55296 ≤ x5_3) = false := decide_eq_false c45
              clear c45
              have H' := Aside0.mk H
              clear H
              go_wp2
              repeat (go_quiet (fail); try go_wp2)
              go_roundg k3
              case measure => have := HK1.out; have := HJ2.out; have := HK3.out; omega
              case rel => exact ⟨(wrap64 ((wrap64 (x3_2 + x4_2)) + 1)), (by first | rfl | (simp; done) | (simp [*]; done)), H', ⟨by have := HK1.out; have := HJ2.out; have := HK3.out; omega⟩, by repeat (first | exact Drawn0.refl _ | apply Drawn0.step)⟩
   ·rw [if_neg c2] at H
    have c2b0 : decide (x3_1 < (l0.length : Int)) = false := decide_eq_false c2
    clear c2
    obtain rfl := Option.some.inj H
    go_wp2
    repeat (go_quiet (fail); try go_wp2)
    go_ret
    exact ⟨by first | rfl | (simp; done) | (simp [*]; done), by repeat (first | exact Drawn0.refl _ | apply Drawn0.step)⟩

end Go.Proofs.YtljmikfpknmnnaaDoor.XS
