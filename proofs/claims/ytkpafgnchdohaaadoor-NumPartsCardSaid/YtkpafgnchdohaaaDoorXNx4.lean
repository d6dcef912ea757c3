/- Functions of the Go program as Lean functions, and the proofs that the Go code answers as they do. Written by a program of this session. -/
import Derived.Test.YtkpafgnchdohaaaDoorXNx0
import Derived.Test.YtkpafgnchdohaaaDoorXNx2
import Derived.Test.YtkpafgnchdohaaaDoorXNx3
namespace Go.Proofs.YtkpafgnchdohaaaDoor.XN
open Go.RowKit Go.Proofs.YtkpafgnchdohaaaDoorW.PrintWords Go.Proofs.YtkpafgnchdohaaaDoorW.PrintLast Go.Proofs.YtkpafgnchdohaaaDoorW.PrintMore
attribute [local go_sem] max2_int min2_int max_two min_two max_three min_three max_four min_four   -- for this text's walks alone
set_option linter.unusedVariables false
set_option linter.unusedSimpArgs false

/-! ### mandrellaw02_NumParts: function 3 -/
mutual
def mandrellaw02_NumParts.j0 : Nat → Bool → Int → Int → Int → Option (Bool)
  | 0, _, _, _, _ => none
  | k + 1, x0, x1, x2, x7 => mandrellaw02_NumParts.l0 k x0 x1 x2 x7 0
def mandrellaw02_NumParts.l0 : Nat → Bool → Int → Int → Int → Int → Option (Bool)
  | 0, _, _, _, _, _ => none
  | k + 1, x0, x1, x2, x7, x8 => if x8 < 2 then ((num_Two.f k ((((x7 + 3) % 256) + x8) % 256) x1 x2).bind fun bt150 => ((num_Two.f k ((((x7 + 5) % 256) + x8) % 256) x1 x2).bind fun bt153 => (if bt150.2.2.isNone = true then (if bt153.2.2.isNone = true then (mandrellaw02_NumParts.j2 k x0 x1 x2 x7 x8 bt150.1 bt150.2.1 bt153.1 bt153.2.1 false) else (mandrellaw02_NumParts.j2 k x0 x1 x2 x7 x8 bt150.1 bt150.2.1 bt153.1 bt153.2.1 true)) else (mandrellaw02_NumParts.j2 k x0 x1 x2 x7 x8 bt150.1 bt150.2.1 bt153.1 bt153.2.1 true)))) else ((mandrellaw02_sure.f k).bind fun t149 => (some t149))
def mandrellaw02_NumParts.j2 : Nat → Bool → Int → Int → Int → Int → Int → Int → Int → Int → Bool → Option (Bool)
  | 0, _, _, _, _, _, _, _, _, _, _ => none
  | k + 1, x0, x1, x2, x7, x8, x9, x10, x12, x13, x59 => if x59 = true then (some false) else (if x2 = 0 then (if x10 = 2 then (if x13 = 2 then (if x9 = 0 then (if x12 = 0 then (mandrellaw02_NumParts.l0 k x0 x1 x2 x7 ((x8 + 1) % 256)) else (some false)) else (some false)) else (some false)) else (some false)) else (if x0 = true then (mandrellaw02_NumParts.j3 k x0 x1 x2 x7 x8 x9 x10 x12 x13 9223372036854775808 18446744073709551615) else (mandrellaw02_NumParts.j3 k x0 x1 x2 x7 x8 x9 x10 x12 x13 2147483648 4294967295)))
def mandrellaw02_NumParts.j3 : Nat → Bool → Int → Int → Int → Int → Int → Int → Int → Int → Int → Int → Option (Bool)
  | 0, _, _, _, _, _, _, _, _, _, _, _ => none
  | k + 1, x0, x1, x2, x7, x8, x9, x10, x12, x13, x15, x16 => if x8 = 0 then (if x1 = x15 then (mandrellaw02_NumParts.j4 k x0 x1 x2 x7 x8 x9 x10 x12 x13 (x2 == x16)) else (mandrellaw02_NumParts.j4 k x0 x1 x2 x7 x8 x9 x10 x12 x13 false)) else (mandrellaw02_NumParts.j4 k x0 x1 x2 x7 x8 x9 x10 x12 x13 false)
def mandrellaw02_NumParts.j4 : Nat → Bool → Int → Int → Int → Int → Int → Int → Int → Int → Bool → Option (Bool)
  | 0, _, _, _, _, _, _, _, _, _, _ => none
  | k + 1, x0, x1, x2, x7, x8, x9, x10, x12, x13, x88 => if x88 = true then (if x10 = 3 then (if x13 = 0 then (if x12 = 0 then (mandrellaw02_NumParts.l0 k x0 x1 x2 x7 ((x8 + 1) % 256)) else (some false)) else (some false)) else (some false)) else ((num_Two.f k ((x7 + 2) % 256) x9 x2).bind fun bt158 => ((num_Two.f k x7 bt158.1 x12).bind fun bt161 => (if x10 = 0 then (if x13 = 0 then (if bt158.2.2.isNone = true then (if bt161.2.2.isNone = true then (mandrellaw02_NumParts.j5 k x0 x1 x2 x7 x8 x12 (bt161.1 != x1)) else (mandrellaw02_NumParts.j5 k x0 x1 x2 x7 x8 x12 true)) else (mandrellaw02_NumParts.j5 k x0 x1 x2 x7 x8 x12 true)) else (mandrellaw02_NumParts.j5 k x0 x1 x2 x7 x8 x12 true)) else (mandrellaw02_NumParts.j5 k x0 x1 x2 x7 x8 x12 true))))
def mandrellaw02_NumParts.j5 : Nat → Bool → Int → Int → Int → Int → Int → Bool → Option (Bool)
  | 0, _, _, _, _, _, _, _ => none
  | k + 1, x0, x1, x2, x7, x8, x12, x134 => if x134 = true then (some false) else (if x8 = 1 then (if x12 ≥ x2 then (some false) else (mandrellaw02_NumParts.l0 k x0 x1 x2 x7 ((x8 + 1) % 256))) else (mandrellaw02_NumParts.l0 k x0 x1 x2 x7 ((x8 + 1) % 256)))
end
def mandrellaw02_NumParts.f (k : Nat) (a0 : Bool) (a1 : Int) (a2 : Int) : Option (Bool) := if a0 = true then (mandrellaw02_NumParts.j0 k a0 a1 a2 124) else (mandrellaw02_NumParts.j0 k a0 (Go.bits .and .u64 a1 4294967295) (Go.bits .and .u64 a2 4294967295) 106)
theorem mandrellaw02_NumParts.mono_l : ∀ k, (∀ y0 y1 y2 y3, LeO (mandrellaw02_NumParts.j0 k y0 y1 y2 y3) (mandrellaw02_NumParts.j0 (k + 1) y0 y1 y2 y3)) ∧ (∀ y0 y1 y2 y3 y4, LeO (mandrellaw02_NumParts.l0 k y0 y1 y2 y3 y4) (mandrellaw02_NumParts.l0 (k + 1) y0 y1 y2 y3 y4)) ∧ (∀ y0 y1 y2 y3 y4 y5 y6 y7 y8 y9, LeO (mandrellaw02_NumParts.j2 k y0 y1 y2 y3 y4 y5 y6 y7 y8 y9) (mandrellaw02_NumParts.j2 (k + 1) y0 y1 y2 y3 y4 y5 y6 y7 y8 y9)) ∧ (∀ y0 y1 y2 y3 y4 y5 y6 y7 y8 y9 y10, LeO (mandrellaw02_NumParts.j3 k y0 y1 y2 y3 y4 y5 y6 y7 y8 y9 y10) (mandrellaw02_NumParts.j3 (k + 1) y0 y1 y2 y3 y4 y5 y6 y7 y8 y9 y10)) ∧ (∀ y0 y1 y2 y3 y4 y5 y6 y7 y8 y9, LeO (mandrellaw02_NumParts.j4 k y0 y1 y2 y3 y4 y5 y6 y7 y8 y9) (mandrellaw02_NumParts.j4 (k + 1) y0 y1 y2 y3 y4 y5 y6 y7 y8 y9)) ∧ (∀ y0 y1 y2 y3 y4 y5 y6, LeO (mandrellaw02_NumParts.j5 k y0 y1 y2 y3 y4 y5 y6) (mandrellaw02_NumParts.j5 (k + 1) y0 y1 y2 y3 y4 y5 y6))
  | 0 => ⟨fun _ _ _ _ r h => by simp [mandrellaw02_NumParts.j0] at h, fun _ _ _ _ _ r h => by simp [mandrellaw02_NumParts.l0] at h, fun _ _ _ _ _ _ _ _ _ _ r h => by simp [mandrellaw02_NumParts.j2] at h, fun _ _ _ _ _ _ _ _ _ _ _ r h => by simp [mandrellaw02_NumParts.j3] at h, fun _ _ _ _ _ _ _ _ _ _ r h => by simp [mandrellaw02_NumParts.j4] at h, fun _ _ _ _ _ _ _ r h => by simp [mandrellaw02_NumParts.j5] at h⟩
  | k + 1 => by
    obtain ⟨ih0, ih1, ih2, ih3, ih4, ih5⟩ := mandrellaw02_NumParts.mono_l k
    refine ⟨?_, ?_, ?_, ?_, ?_, ?_⟩
    · intro y0 y1 y2 y3
      unfold mandrellaw02_NumParts.j0
      repeat' first
      | (with_reducible exact ih0 _ _ _ _)
      | (with_reducible exact ih1 _ _ _ _ _)
      | (with_reducible exact ih2 _ _ _ _ _ _ _ _ _ _)
      | (with_reducible exact ih3 _ _ _ _ _ _ _ _ _ _ _)
      | (with_reducible exact ih4 _ _ _ _ _ _ _ _ _ _)
      | (with_reducible exact ih5 _ _ _ _ _ _ _)
      | (with_reducible exact mandrellaw02_sure.mono _)
      | (with_reducible exact num_Two.mono _ _ _ _)
      | (with_reducible exact LeO.refl _)
      | (with_reducible exact LeO.none _)
      | (with_reducible refine LeO.ite ?_ ?_)
      | (with_reducible refine LeO.bind ?_ (fun _ => ?_))
      | exact ih0 _ _ _ _
      | exact ih1 _ _ _ _ _
      | exact ih2 _ _ _ _ _ _ _ _ _ _
      | exact ih3 _ _ _ _ _ _ _ _ _ _ _
      | exact ih4 _ _ _ _ _ _ _ _ _ _
      | exact ih5 _ _ _ _ _ _ _
      | exact mandrellaw02_sure.mono _
      | exact num_Two.mono _ _ _ _
      | exact LeO.none _
      | refine LeO.ite ?_ ?_
      | refine LeO.bind ?_ (fun _ => ?_)
    · intro y0 y1 y2 y3 y4
      unfold mandrellaw02_NumParts.l0
      repeat' first
      | (with_reducible exact ih0 _ _ _ _)
      | (with_reducible exact ih1 _ _ _ _ _)
      | (with_reducible exact ih2 _ _ _ _ _ _ _ _ _ _)
      | (with_reducible exact ih3 _ _ _ _ _ _ _ _ _ _ _)
      | (with_reducible exact ih4 _ _ _ _ _ _ _ _ _ _)
      | (with_reducible exact ih5 _ _ _ _ _ _ _)
      | (with_reducible exact mandrellaw02_sure.mono _)
      | (with_reducible exact num_Two.mono _ _ _ _)
      | (with_reducible exact LeO.refl _)
      | (with_reducible exact LeO.none _)
      | (with_reducible refine LeO.ite ?_ ?_)
      | (with_reducible refine LeO.bind ?_ (fun _ => ?_))
      | exact ih0 _ _ _ _
      | exact ih1 _ _ _ _ _
      | exact ih2 _ _ _ _ _ _ _ _ _ _
      | exact ih3 _ _ _ _ _ _ _ _ _ _ _
      | exact ih4 _ _ _ _ _ _ _ _ _ _
      | exact ih5 _ _ _ _ _ _ _
      | exact mandrellaw02_sure.mono _
      | exact num_Two.mono _ _ _ _
      | exact LeO.none _
      | refine LeO.ite ?_ ?_
      | refine LeO.bind ?_ (fun _ => ?_)
    · intro y0 y1 y2 y3 y4 y5 y6 y7 y8 y9
      unfold mandrellaw02_NumParts.j2
      repeat' first
      | (with_reducible exact ih0 _ _ _ _)
      | (with_reducible exact ih1 _ _ _ _ _)
      | (with_reducible exact ih2 _ _ _ _ _ _ _ _ _ _)
      | (with_reducible exact ih3 _ _ _ _ _ _ _ _ _ _ _)
      | (with_reducible exact ih4 _ _ _ _ _ _ _ _ _ _)
      | (with_reducible exact ih5 _ _ _ _ _ _ _)
      | (with_reducible exact mandrellaw02_sure.mono _)
      | (with_reducible exact num_Two.mono _ _ _ _)
      | (with_reducible exact LeO.refl _)
      | (with_reducible exact LeO.none _)
      | (with_reducible refine LeO.ite ?_ ?_)
      | (with_reducible refine LeO.bind ?_ (fun _ => ?_))
      | exact ih0 _ _ _ _
      | exact ih1 _ _ _ _ _
      | exact ih2 _ _ _ _ _ _ _ _ _ _
      | exact ih3 _ _ _ _ _ _ _ _ _ _ _
      | exact ih4 _ _ _ _ _ _ _ _ _ _
      | exact ih5 _ _ _ _ _ _ _
      | exact mandrellaw02_sure.mono _
      | exact num_Two.mono _ _ _ _
      | exact LeO.none _
      | refine LeO.ite ?_ ?_
      | refine LeO.bind ?_ (fun _ => ?_)
    · intro y0 y1 y2 y3 y4 y5 y6 y7 y8 y9 y10
      unfold mandrellaw02_NumParts.j3
      repeat' first
      | (with_reducible exact ih0 _ _ _ _)
      | (with_reducible exact ih1 _ _ _ _ _)
      | (with_reducible exact ih2 _ _ _ _ _ _ _ _ _ _)
      | (with_reducible exact ih3 _ _ _ _ _ _ _ _ _ _ _)
      | (with_reducible exact ih4 _ _ _ _ _ _ _ _ _ _)
      | (with_reducible exact ih5 _ _ _ _ _ _ _)
      | (with_reducible exact mandrellaw02_sure.mono _)
      | (with_reducible exact num_Two.mono _ _ _ _)
      | (with_reducible exact LeO.refl _)
      | (with_reducible exact LeO.none _)
      | (with_reducible refine LeO.ite ?_ ?_)
      | (with_reducible refine LeO.bind ?_ (fun _ => ?_))
      | exact ih0 _ _ _ _
      | exact ih1 _ _ _ _ _
      | exact ih2 _ _ _ _ _ _ _ _ _ _
      | exact ih3 _ _ _ _ _ _ _ _ _ _ _
      | exact ih4 _ _ _ _ _ _ _ _ _ _
      | exact ih5 _ _ _ _ _ _ _
      | exact mandrellaw02_sure.mono _
      | exact num_Two.mono _ _ _ _
      | exact LeO.none _
      | refine LeO.ite ?_ ?_
      | refine LeO.bind ?_ (fun _ => ?_)
    · intro y0 y1 y2 y3 y4 y5 y6 y7 y8 y9
      unfold mandrellaw02_NumParts.j4
      repeat' first
      | (with_reducible exact ih0 _ _ _ _)
      | (with_reducible exact ih1 _ _ _ _ _)
      | (with_reducible exact ih2 _ _ _ _ _ _ _ _ _ _)
      | (with_reducible exact ih3 _ _ _ _ _ _ _ _ _ _ _)
      | (with_reducible exact ih4 _ _ _ _ _ _ _ _ _ _)
      | (with_reducible exact ih5 _ _ _ _ _ _ _)
      | (with_reducible exact mandrellaw02_sure.mono _)
      | (with_reducible exact num_Two.mono _ _ _ _)
      | (with_reducible exact LeO.refl _)
      | (with_reducible exact LeO.none _)
      | (with_reducible refine LeO.ite ?_ ?_)
      | (with_reducible refine LeO.bind ?_ (fun _ => ?_))
      | exact ih0 _ _ _ _
      | exact ih1 _ _ _ _ _
      | exact ih2 _ _ _ _ _ _ _ _ _ _
      | exact ih3 _ _ _ _ _ _ _ _ _ _ _
      | exact ih4 _ _ _ _ _ _ _ _ _ _
      | exact ih5 _ _ _ _ _ _ _
      | exact mandrellaw02_sure.mono _
      | exact num_Two.mono _ _ _ _
      | exact LeO.none _
      | refine LeO.ite ?_ ?_
      | refine LeO.bind ?_ (fun _ => ?_)
    · intro y0 y1 y2 y3 y4 y5 y6
      unfold mandrellaw02_NumParts.j5
      repeat' first
      | (with_reducible exact ih0 _ _ _ _)
      | (with_reducible exact ih1 _ _ _ _ _)
      | (with_reducible exact ih2 _ _ _ _ _ _ _ _ _ _)
      | (with_reducible exact ih3 _ _ _ _ _ _ _ _ _ _ _)
      | (with_reducible exact ih4 _ _ _ _ _ _ _ _ _ _)
      | (with_reducible exact ih5 _ _ _ _ _ _ _)
      | (with_reducible exact mandrellaw02_sure.mono _)
      | (with_reducible exact num_Two.mono _ _ _ _)
      | (with_reducible exact LeO.refl _)
      | (with_reducible exact LeO.none _)
      | (with_reducible refine LeO.ite ?_ ?_)
      | (with_reducible refine LeO.bind ?_ (fun _ => ?_))
      | exact ih0 _ _ _ _
      | exact ih1 _ _ _ _ _
      | exact ih2 _ _ _ _ _ _ _ _ _ _
      | exact ih3 _ _ _ _ _ _ _ _ _ _ _
      | exact ih4 _ _ _ _ _ _ _ _ _ _
      | exact ih5 _ _ _ _ _ _ _
      | exact mandrellaw02_sure.mono _
      | exact num_Two.mono _ _ _ _
      | exact LeO.none _
      | refine LeO.ite ?_ ?_
      | refine LeO.bind ?_ (fun _ => ?_)
theorem mandrellaw02_NumParts.mono : ∀ a0 a1 a2 k, LeO (mandrellaw02_NumParts.f k a0 a1 a2) (mandrellaw02_NumParts.f (k + 1) a0 a1 a2) := by
  intro a0 a1 a2 k
  obtain ⟨ih0, ih1, ih2, ih3, ih4, ih5⟩ := mandrellaw02_NumParts.mono_l k
  unfold mandrellaw02_NumParts.f
  repeat' first
      | (with_reducible exact ih0 _ _ _ _)
      | (with_reducible exact ih1 _ _ _ _ _)
      | (with_reducible exact ih2 _ _ _ _ _ _ _ _ _ _)
      | (with_reducible exact ih3 _ _ _ _ _ _ _ _ _ _ _)
      | (with_reducible exact ih4 _ _ _ _ _ _ _ _ _ _)
      | (with_reducible exact ih5 _ _ _ _ _ _ _)
      | (with_reducible exact mandrellaw02_sure.mono _)
      | (with_reducible exact num_Two.mono _ _ _ _)
      | (with_reducible exact LeO.refl _)
      | (with_reducible exact LeO.none _)
      | (with_reducible refine LeO.ite ?_ ?_)
      | (with_reducible refine LeO.bind ?_ (fun _ => ?_))
      | exact ih0 _ _ _ _
      | exact ih1 _ _ _ _ _
      | exact ih2 _ _ _ _ _ _ _ _ _ _
      | exact ih3 _ _ _ _ _ _ _ _ _ _ _
      | exact ih4 _ _ _ _ _ _ _ _ _ _
      | exact ih5 _ _ _ _ _ _ _
      | exact mandrellaw02_sure.mono _
      | exact num_Two.mono _ _ _ _
      | exact LeO.none _
      | refine LeO.ite ?_ ?_
      | refine LeO.bind ?_ (fun _ => ?_)
set_option maxHeartbeats 8000000 in
set_option maxRecDepth 100000 in
theorem mandrellaw02_NumParts.calls (k : Nat) (a0 : Bool) (a1 : Int) (a2 : Int) (r : Bool) (w : World) (hLT : LaidT w) (h : mandrellaw02_NumParts.f k a0 a1 a2 = some r) :
    Calls Tryd.prog 3 #[.bool a0, .int .u64 a1, .int .u64 a2] w fun e w' => e = .returned (.bool r) ∧ Drawn0 w w' := by
  have hu25 := Tryd.underlying25
  have hu48 := Tryd.underlying48
  have H : (if a0 = true then (mandrellaw02_NumParts.j0 k a0 a1 a2 124) else (mandrellaw02_NumParts.j0 k a0 (Go.bits .and .u64 a1 4294967295) (Go.bits .and .u64 a2 4294967295) 106)) = some r := h
  clear h
  have HC4 := Aside0.mk H
  clear H
  go_enter Tryd.func3, Tryd.ntmps3
  go_upto_if 23 with (fail)
  go_cut [1, 2, 7] (fun v1 v2 v7 wc => ∃ (kq : Nat) (x1_3 : Int) (x2_3 : Int) (x7_3 : Int), v1 = .int .u64 x1_3 ∧ v2 = .int .u64 x2_3 ∧ v7 = .int .u8 x7_3 ∧ Aside0 (mandrellaw02_NumParts.j0 kq a0 x1_3 x2_3 x7_3 = some r) ∧ Aside0 (kq ≤ k) ∧ Drawn0 w wc)
  case first =>
    have H := HC4.out
    clear HC4
    by_cases c5 : a0 = true
    · subst c5
      have H1 : (mandrellaw02_NumParts.j0 k true a1 a2 124) = some r := by rw [if_pos rfl] at H; exact H
      clear H
      have H := H1
      clear H1
      have H' := Aside0.mk H
      clear H
      go_wp2
      go_meet
      case rel => exact ⟨_, (a1), (a2), (124), (by first | rfl | (simp; done) | (simp [*]; done)), (by first | rfl | (simp; done) | (simp [*]; done)), (by first | rfl | (simp; done) | (simp [*]; done)), H', ⟨by first | omega | exact Nat.le_refl _⟩, by repeat (first | exact Drawn0.refl _ | apply Drawn0.step)⟩
    · replace c5 := Bool.eq_false_iff.mpr c5
      subst c5
      have H1 : (mandrellaw02_NumParts.j0 k false (Go.bits .and .u64 a1 4294967295) (Go.bits .and .u64 a2 4294967295) 106) = some r := by rw [if_neg (show ¬ (false = true) by decide)] at H; exact H
      clear H
      have H := H1
      clear H1
      have H' := Aside0.mk H
      clear H
      go_wp2
      go_meet
      case rel => exact ⟨_, (Go.bits .and .u64 a1 4294967295), (Go.bits .and .u64 a2 4294967295), (106), (by first | rfl | (simp; done) | (simp [*]; done)), (by first | rfl | (simp; done) | (simp [*]; done)), (by first | rfl | (simp; done) | (simp [*]; done)), H', ⟨by first | omega | exact Nat.le_refl _⟩, by repeat (first | exact Drawn0.refl _ | apply Drawn0.step)⟩
  case rest =>
    clear HC4
    try clear p2
    try clear c3
    try clear c5
    obtain ⟨kq, x1_3, x2_3, x7_3, rfl, rfl, rfl, HA, HJ3, ⟨mc3, rfl⟩⟩ := hcut
    cases kq with
    | zero => exact absurd HA.out (by simp [mandrellaw02_NumParts.j0])
    | succ kj3 =>
      have H := HA.out
      clear HA
      simp only [mandrellaw02_NumParts.j0] at H
      have H' := Aside0.mk H
      clear H
      go_wp2
      go_loopg [8] kj3 (fun kq v8 w' => ∃ (x8_2 : Int), v8 = .int .u8 x8_2 ∧ Aside0 (mandrellaw02_NumParts.l0 kq a0 x1_3 x2_3 x7_3 x8_2 = some r) ∧ Aside0 (kq ≤ kj3) ∧ Drawn0 w w')
      case atStart => exact ⟨(0), (by first | rfl | (simp; done) | (simp [*]; done)), H', ⟨Nat.le_refl _⟩, by repeat (first | exact Drawn0.refl _ | apply Drawn0.step)⟩
      case round =>
        clear H'
        try clear p2
        try clear c3
        try clear c5
        try clear p2
        obtain ⟨x8_2, rfl, HA, HK2, ⟨m2, rfl⟩⟩ := hrel
        cases gk with
        | zero => exact absurd HA.out (by simp [mandrellaw02_NumParts.l0])
        | succ k2 =>
          have H := HA.out
          clear HA
          simp only [mandrellaw02_NumParts.l0] at H
          by_cases c6 : x8_2 < 2
          · rw [if_pos c6] at H
            have c6b0 : decide (x8_2 < 2) = true := decide_eq_true c6
            clear c6
            replace H := Option.bind_eq_some_iff.mp H
            obtain ⟨⟨t150, t151, t152⟩, A70, H⟩ := H
            replace H : ((num_Two.f k2 ((((x7_3 + 5) % 256) + x8_2) % 256) x1_3 x2_3).bind fun bt153 => (if t152.isNone = true then (if bt153.2.2.isNone = true then (mandrellaw02_NumParts.j2 k2 a0 x1_3 x2_3 x7_3 x8_2 t150 t151 bt153.1 bt153.2.1 false) else (mandrellaw02_NumParts.j2 k2 a0 x1_3 x2_3 x7_3 x8_2 t150 t151 bt153.1 bt153.2.1 true)) else (mandrellaw02_NumParts.j2 k2 a0 x1_3 x2_3 x7_3 x8_2 t150 t151 bt153.1 bt153.2.1 true))) = some r := H
            have A7 := Aside0.mk A70
            clear A70
            replace H := Option.bind_eq_some_iff.mp H
            obtain ⟨⟨t153, t154, t155⟩, A80, H⟩ := H
            replace H : (if t152.isNone = true then (if t155.isNone = true then (mandrellaw02_NumParts.j2 k2 a0 x1_3 x2_3 x7_3 x8_2 t150 t151 t153 t154 false) else (mandrellaw02_NumParts.j2 k2 a0 x1_3 x2_3 x7_3 x8_2 t150 t151 t153 t154 true)) else (mandrellaw02_NumParts.j2 k2 a0 x1_3 x2_3 x7_3 x8_2 t150 t151 t153 t154 true)) = some r := H
            have A8 := Aside0.mk A80
            clear A80
            have HC9 := Aside0.mk H
            clear H
            go_upto_region 10 with (first | ((with_reducible refine gate_callee (f := 10) rfl ?_); refine goesL_ _ rfl rfl Tryd.func10 (by kernel_rfl) rfl #[.int .u8 ((((x7_3 + 3) % 256) + x8_2) % 256), .int .u64 x1_3, .int .u64 x2_3] rfl (by (try simp only [List.map_toArray, List.map_cons, List.map_nil]); first | done | rfl | (simp only [List.length_drop, List.length_take]; rfl)) ?_; (with_reducible refine (num_Two.calls k2 ((((x7_3 + 3) % 256) + x8_2) % 256) x1_3 x2_3 t150 t151 t152 _ A7.out).mono ?_); rintro e w' ⟨rfl, ⟨nd, rfl⟩⟩; refine ⟨_, rfl, ?_⟩; (try simp only [errW_none, errW_some])) | ((with_reducible refine gate_callee (f := 10) rfl ?_); refine goesL_ _ rfl rfl Tryd.func10 (by kernel_rfl) rfl #[.int .u8 ((((x7_3 + 5) % 256) + x8_2) % 256), .int .u64 x1_3, .int .u64 x2_3] rfl (by (try simp only [List.map_toArray, List.map_cons, List.map_nil]); first | done | rfl | (simp only [List.length_drop, List.length_take]; rfl)) ?_; (with_reducible refine (num_Two.calls k2 ((((x7_3 + 5) % 256) + x8_2) % 256) x1_3 x2_3 t153 t154 t155 _ A8.out).mono ?_); rintro e w' ⟨rfl, ⟨nd, rfl⟩⟩; refine ⟨_, rfl, ?_⟩; (try simp only [errW_none, errW_some])))
            (try simp only [Act.put, List.setIfInBounds_toArray, List.set_cons_zero, List.set_cons_succ])
            go_cut [59] (fun v59 wc => ∃ (kq : Nat) (x59_8 : Bool), v59 = .bool x59_8 ∧ Aside0 (mandrellaw02_NumParts.j2 kq a0 x1_3 x2_3 x7_3 x8_2 t150 t151 t153 t154 x59_8 = some r) ∧ Aside0 (kq ≤ k2) ∧ Drawn0 w wc)
            case first =>
              have H := HC9.out
              clear HC9
              rcases t152 with _ | q156
              · have H1 : (if t155.isNone = true then (mandrellaw02_NumParts.j2 k2 a0 x1_3 x2_3 x7_3 x8_2 t150 t151 t153 t154 false) else (mandrellaw02_NumParts.j2 k2 a0 x1_3 x2_3 x7_3 x8_2 t150 t151 t153 t154 true)) = some r := by rw [if_pos (show (none : Option Int).isNone = true by rfl)] at H; exact H
                clear H
                have H := H1
                clear H1
                try simp only [errW_none, errW_some]
                rcases t155 with _ | q157
                · have H1 : (mandrellaw02_NumParts.j2 k2 a0 x1_3 x2_3 x7_3 x8_2 t150 t151 t153 t154 false) = some r := by rw [if_pos (show (none : Option Int).isNone = true by rfl)] at H; exact H
                  clear H
                  have H := H1
                  clear H1
                  try simp only [errW_none, errW_some]
                  have H' := Aside0.mk H
                  clear H
                  go_wp2
                  go_meet
                  case rel => exact ⟨_, (false), (by first | rfl | (simp; done) | (simp [*]; done)), H', ⟨by have := HJ3.out; have := HK2.out; first | omega | exact Nat.le_refl _⟩, by repeat (first | exact Drawn0.refl _ | apply Drawn0.step)⟩
                · have H1 : (mandrellaw02_NumParts.j2 k2 a0 x1_3 x2_3 x7_3 x8_2 t150 t151 t153 t154 true) = some r := by rw [if_neg (show ¬ (some q157).isNone = true by simp)] at H; exact H
                  clear H
                  have H := H1
                  clear H1
                  try simp only [errW_none, errW_some]
                  have H' := Aside0.mk H
                  clear H
                  go_wp2
                  go_meet
                  case rel => exact ⟨_, (true), (by first | rfl | (simp; done) | (simp [*]; done)), H', ⟨by have := HJ3.out; have := HK2.out; first | omega | exact Nat.le_refl _⟩, by repeat (first | exact Drawn0.refl _ | apply Drawn0.step)⟩
              · have H1 : (mandrellaw02_NumParts.j2 k2 a0 x1_3 x2_3 x7_3 x8_2 t150 t151 t153 t154 true) = some r := by rw [if_neg (show ¬ (some q156).isNone = true by simp)] at H; exact H
                clear H
                have H := H1
                clear H1
                try simp only [errW_none, errW_some]
                have H' := Aside0.mk H
                clear H
                go_wp2
                go_meet
                case rel => exact ⟨_, (true), (by first | rfl | (simp; done) | (simp [*]; done)), H', ⟨by have := HJ3.out; have := HK2.out; first | omega | exact Nat.le_refl _⟩, by repeat (first | exact Drawn0.refl _ | apply Drawn0.step)⟩
            case rest =>
              clear HC9
              try clear c1
              try clear q1
              try clear p2
              try clear c3
              try clear c5
              try clear c6
              try clear c6b0
              try clear p2
              try clear q156
              try clear q157
              obtain ⟨kq, x59_8, rfl, HA, HJ8, ⟨mc8, rfl⟩⟩ := hcut
              cases kq with
              | zero => exact absurd HA.out (by simp [mandrellaw02_NumParts.j2])
              | succ kj8 =>
                have H := HA.out
                clear HA
                simp only [mandrellaw02_NumParts.j2] at H
                by_cases c10 : x59_8 = true
                · subst c10
                  have H1 : (some false) = some r := by rw [if_pos rfl] at H; exact H
                  clear H
                  have H := H1
                  clear H1
                  obtain rfl := Option.some.inj H
                  go_wp2
                  go_ret
                  exact ⟨by first | rfl | (simp; done) | (simp [*]; done), by repeat (first | exact Drawn0.refl _ | apply Drawn0.step)⟩
                · replace c10 := Bool.eq_false_iff.mpr c10
                  subst c10
                  have H1 : (if x2_3 = 0 then (if t151 = 2 then (if t154 = 2 then (if t150 = 0 then (if t153 = 0 then (mandrellaw02_NumParts.l0 kj8 a0 x1_3 x2_3 x7_3 ((x8_2 + 1) % 256)) else (some false)) else (some false)) else (some false)) else (some false)) else (if a0 = true then (mandrellaw02_NumParts.j3 kj8 a0 x1_3 x2_3 x7_3 x8_2 t150 t151 t153 t154 9223372036854775808 18446744073709551615) else (mandrellaw02_NumParts.j3 kj8 a0 x1_3 x2_3 x7_3 x8_2 t150 t151 t153 t154 2147483648 4294967295))) = some r := by rw [if_neg (show ¬ (false = true) by decide)] at H; exact H
                  clear H
                  have H := H1
                  clear H1
                  by_cases c11 : x2_3 = 0
                  · rw [if_pos c11] at H
                    have c11b0 : (x2_3 == 0) = true := beq_iff_eq.mpr c11
                    have c11b1 : (x2_3 != 0) = false := bne_eq_false_iff_eq.mpr c11
                    clear c11
                    by_cases c12 : t151 = 2
                    · rw [if_pos c12] at H
                      have c12b0 : (t151 == 2) = true := beq_iff_eq.mpr c12
                      have c12b1 : (t151 != 2) = false := bne_eq_false_iff_eq.mpr c12
                      clear c12
                      by_cases c13 : t154 = 2
                      · rw [if_pos c13] at H
                        have c13b0 : (t154 == 2) = true := beq_iff_eq.mpr c13
                        have c13b1 : (t154 != 2) = false := bne_eq_false_iff_eq.mpr c13
                        clear c13
                        by_cases c14 : t150 = 0
                        · rw [if_pos c14] at H
                          have c14b0 : (t150 == 0) = true := beq_iff_eq.mpr c14
                          have c14b1 : (t150 != 0) = false := bne_eq_false_iff_eq.mpr c14
                          clear c14
                          by_cases c15 : t153 = 0
                          · rw [if_pos c15] at H
                            have c15b0 : (t153 == 0) = true := beq_iff_eq.mpr c15
                            have c15b1 : (t153 != 0) = false := bne_eq_false_iff_eq.mpr c15
                            clear c15
                            have H' := Aside0.mk H
                            clear H
                            go_wp2
                            go_roundg kj8
                            case measure => have := HJ3.out; have := HK2.out; have := HJ8.out; omega
                            case rel => exact ⟨((x8_2 + 1) % 256), (by first | rfl | (simp; done) | (simp [*]; done)), H', ⟨by have := HJ3.out; have := HK2.out; have := HJ8.out; omega⟩, by repeat (first | exact Drawn0.refl _ | apply Drawn0.step)⟩
                          · rw [if_neg c15] at H
                            have c15b0 : (t153 == 0) = false := beq_eq_false_iff_ne.mpr c15
                            have c15b1 : (t153 != 0) = true := bne_iff_ne.mpr c15
                            obtain rfl := Option.some.inj H
                            go_wp2
                            go_ret
                            exact ⟨by first | rfl | (simp; done) | (simp [*]; done), by repeat (first | exact Drawn0.refl _ | apply Drawn0.step)⟩
                        · rw [if_neg c14] at H
                          have c14b0 : (t150 == 0) = false := beq_eq_false_iff_ne.mpr c14
                          have c14b1 : (t150 != 0) = true := bne_iff_ne.mpr c14
                          obtain rfl := Option.some.inj H
                          go_wp2
                          go_ret
                          exact ⟨by first | rfl | (simp; done) | (simp [*]; done), by repeat (first | exact Drawn0.refl _ | apply Drawn0.step)⟩
                      · rw [if_neg c13] at H
                        have c13b0 : (t154 == 2) = false := beq_eq_false_iff_ne.mpr c13
                        have c13b1 : (t154 != 2) = true := bne_iff_ne.mpr c13
                        obtain rfl := Option.some.inj H
                        go_wp2
                        go_ret
                        exact ⟨by first | rfl | (simp; done) | (simp [*]; done), by repeat (first | exact Drawn0.refl _ | apply Drawn0.step)⟩
                    · rw [if_neg c12] at H
                      have c12b0 : (t151 == 2) = false := beq_eq_false_iff_ne.mpr c12
                      have c12b1 : (t151 != 2) = true := bne_iff_ne.mpr c12
                      obtain rfl := Option.some.inj H
                      go_wp2
                      go_ret
                      exact ⟨by first | rfl | (simp; done) | (simp [*]; done), by repeat (first | exact Drawn0.refl _ | apply Drawn0.step)⟩
                  · rw [if_neg c11] at H
                    have c11b0 : (x2_3 == 0) = false := beq_eq_false_iff_ne.mpr c11
                    have c11b1 : (x2_3 != 0) = true := bne_iff_ne.mpr c11
                    have HC16 := Aside0.mk H
                    clear H
                    go_upto_if 76 with (fail)
                    go_cut [15, 16] (fun v15 v16 wc => ∃ (kq : Nat) (x15_15 : Int) (x16_15 : Int), v15 = .int .u64 x15_15 ∧ v16 = .int .u64 x16_15 ∧ Aside0 (mandrellaw02_NumParts.j3 kq a0 x1_3 x2_3 x7_3 x8_2 t150 t151 t153 t154 x15_15 x16_15 = some r) ∧ Aside0 (kq ≤ kj8) ∧ Drawn0 w wc)
                    case first =>
                      have H := HC16.out
                      clear HC16
                      by_cases c17 : a0 = true
                      · subst c17
                        have H1 : (mandrellaw02_NumParts.j3 kj8 true x1_3 x2_3 x7_3 x8_2 t150 t151 t153 t154 9223372036854775808 18446744073709551615) = some r := by rw [if_pos rfl] at H; exact H
                        clear H
                        have H := H1
                        clear H1
                        have H' := Aside0.mk H
                        clear H
                        go_wp2
                        go_meet
                        case rel => exact ⟨_, (9223372036854775808), (18446744073709551615), (by first | rfl | (simp; done) | (simp [*]; done)), (by first | rfl | (simp; done) | (simp [*]; done)), H', ⟨by have := HJ3.out; have := HK2.out; have := HJ8.out; first | omega | exact Nat.le_refl _⟩, by repeat (first | exact Drawn0.refl _ | apply Drawn0.step)⟩
                      · replace c17 := Bool.eq_false_iff.mpr c17
                        subst c17
                        have H1 : (mandrellaw02_NumParts.j3 kj8 false x1_3 x2_3 x7_3 x8_2 t150 t151 t153 t154 2147483648 4294967295) = some r := by rw [if_neg (show ¬ (false = true) by decide)] at H; exact H
                        clear H
                        have H := H1
                        clear H1
                        have H' := Aside0.mk H
                        clear H
                        go_wp2
                        go_meet
                        case rel => exact ⟨_, (2147483648), (4294967295), (by first | rfl | (simp; done) | (simp [*]; done)), (by first | rfl | (simp; done) | (simp [*]; done)), H', ⟨by have := HJ3.out; have := HK2.out; have := HJ8.out; first | omega | exact Nat.le_refl _⟩, by repeat (first | exact Drawn0.refl _ | apply Drawn0.step)⟩
                    case rest =>
                      clear HC16
                      try clear c1
                      try clear q1
                      try clear p2
                      try clear c3
                      try clear c5
                      try clear c6
                      try clear c6b0
                      try clear c8
                      try clear c10
                      try clear c11
                      try clear c11b0
                      try clear c11b1
                      try clear c12
                      try clear c12b0
                      try clear c12b1
                      try clear c13
                      try clear c13b0
                      try clear c13b1
                      try clear c14
                      try clear c14b0
                      try clear c14b1
                      try clear c15
                      try clear c15b0
                      try clear c15b1
                      try clear q15
                      try clear c17
                      try clear p2
                      try clear q1
                      try clear q156
                      try clear q157
                      obtain ⟨kq, x15_15, x16_15, rfl, rfl, HA, HJ15, ⟨mc15, rfl⟩⟩ := hcut
                      cases kq with
                      | zero => exact absurd HA.out (by simp [mandrellaw02_NumParts.j3])
                      | succ kj15 =>
                        have H := HA.out
                        clear HA
                        simp only [mandrellaw02_NumParts.j3] at H
                        have HC18 := Aside0.mk H
                        clear H
                        go_upto_region 19 with (fail)
                        go_cut [88] (fun v88 wc => ∃ (kq : Nat) (x88_17 : Bool), v88 = .bool x88_17 ∧ Aside0 (mandrellaw02_NumParts.j4 kq a0 x1_3 x2_3 x7_3 x8_2 t150 t151 t153 t154 x88_17 = some r) ∧ Aside0 (kq ≤ kj15) ∧ Drawn0 w wc)
                        case first =>
                          have H := HC18.out
                          clear HC18
                          by_cases c19 : x8_2 = 0
                          · rw [if_pos c19] at H
                            have c19b0 : (x8_2 == 0) = true := beq_iff_eq.mpr c19
                            have c19b1 : (x8_2 != 0) = false := bne_eq_false_iff_eq.mpr c19
                            clear c19
                            (first | rw [c19b0] | (simp only [i64_w, i32_w]; rw [c19b0]) | skip)
                            by_cases c20 : x1_3 = x15_15
                            · rw [if_pos c20] at H
                              have c20b0 : (x1_3 == x15_15) = true := beq_iff_eq.mpr c20
                              have c20b1 : (x1_3 != x15_15) = false := bne_eq_false_iff_eq.mpr c20
                              clear c20
                              have H' := Aside0.mk H
                              clear H
                              go_wp2
                              go_meet
                              case rel => exact ⟨_, ((x2_3 == x16_15)), (by first | rfl | (simp; done) | (simp [*]; done)), H', ⟨by have := HJ3.out; have := HK2.out; have := HJ8.out; have := HJ15.out; first | omega | exact Nat.le_refl _⟩, by repeat (first | exact Drawn0.refl _ | apply Drawn0.step)⟩
                            · rw [if_neg c20] at H
                              have c20b0 : (x1_3 == x15_15) = false := beq_eq_false_iff_ne.mpr c20
                              have c20b1 : (x1_3 != x15_15) = true := bne_iff_ne.mpr c20
                              have H' := Aside0.mk H
                              clear H
                              go_wp2
                              go_meet
                              case rel => exact ⟨_, (false), (by first | rfl | (simp; done) | (simp [*]; done)), H', ⟨by have := HJ3.out; have := HK2.out; have := HJ8.out; have := HJ15.out; first | omega | exact Nat.le_refl _⟩, by repeat (first | exact Drawn0.refl _ | apply Drawn0.step)⟩
                          · rw [if_neg c19] at H
                            have c19b0 : (x8_2 == 0) = false := beq_eq_false_iff_ne.mpr c19
                            have c19b1 : (x8_2 != 0) = true := bne_iff_ne.mpr c19
                            (first | rw [c19b0] | (simp only [i64_w, i32_w]; rw [c19b0]) | skip)
                            have H' := Aside0.mk H
                            clear H
                            go_wp2
                            go_meet
                            case rel => exact ⟨_, (false), (by first | rfl | (simp; done) | (simp [*]; done)), H', ⟨by have := HJ3.out; have := HK2.out; have := HJ8.out; have := HJ15.out; first | omega | exact Nat.le_refl _⟩, by repeat (first | exact Drawn0.refl _ | apply Drawn0.step)⟩
                        case rest =>
                          clear HC18
                          try clear c1
                          try clear q1
                          try clear c2
                          try clear p2
                          try clear c3
                          try clear c5
                          try clear c6
                          try clear c6b0
                          try clear c8
                          try clear c10
                          try clear c11
                          try clear c11b0
                          try clear c11b1
                          try clear c12
                          try clear c12b0
                          try clear c12b1
                          try clear c13
                          try clear c13b0
                          try clear c13b1
                          try clear c14
                          try clear c14b0
                          try clear c14b1
                          try clear c15
                          try clear c15b0
                          try clear c15b1
                          try clear q15
                          try clear c17
                          try clear c19
                          try clear c19b0
                          try clear c19b1
                          try clear c20
                          try clear c20b0
                          try clear c20b1
                          try clear p2
                          try clear q1
                          try clear q15
                          try clear q156
                          try clear q157
                          obtain ⟨kq, x88_17, rfl, HA, HJ17, ⟨mc17, rfl⟩⟩ := hcut
                          cases kq with
                          | zero => exact absurd HA.out (by simp [mandrellaw02_NumParts.j4])
                          | succ kj17 =>
                            have H := HA.out
                            clear HA
                            simp only [mandrellaw02_NumParts.j4] at H
                            by_cases c21 : x88_17 = true
                            · subst c21
                              have H1 : (if t151 = 3 then (if t154 = 0 then (if t153 = 0 then (mandrellaw02_NumParts.l0 kj17 a0 x1_3 x2_3 x7_3 ((x8_2 + 1) % 256)) else (some false)) else (some false)) else (some false)) = some r := by rw [if_pos rfl] at H; exact H
                              clear H
                              have H := H1
                              clear H1
                              by_cases c22 : t151 = 3
                              · rw [if_pos c22] at H
                                have c22b0 : (t151 == 3) = true := beq_iff_eq.mpr c22
                                have c22b1 : (t151 != 3) = false := bne_eq_false_iff_eq.mpr c22
                                clear c22
                                by_cases c23 : t154 = 0
                                · rw [if_pos c23] at H
                                  have c23b0 : (t154 == 0) = true := beq_iff_eq.mpr c23
                                  have c23b1 : (t154 != 0) = false := bne_eq_false_iff_eq.mpr c23
                                  clear c23
                                  by_cases c24 : t153 = 0
                                  · rw [if_pos c24] at H
                                    have c24b0 : (t153 == 0) = true := beq_iff_eq.mpr c24
                                    have c24b1 : (t153 != 0) = false := bne_eq_false_iff_eq.mpr c24
                                    clear c24
                                    have H' := Aside0.mk H
                                    clear H
                                    go_wp2
                                    go_roundg kj17
                                    case measure => have := HJ3.out; have := HK2.out; have := HJ8.out; have := HJ15.out; have := HJ17.out; omega
                                    case rel => exact ⟨((x8_2 + 1) % 256), (by first | rfl | (simp; done) | (simp [*]; done)), H', ⟨by have := HJ3.out; have := HK2.out; have := HJ8.out; have := HJ15.out; have := HJ17.out; omega⟩, by repeat (first | exact Drawn0.refl _ | apply Drawn0.step)⟩
                                  · rw [if_neg c24] at H
                                    have c24b0 : (t153 == 0) = false := beq_eq_false_iff_ne.mpr c24
                                    have c24b1 : (t153 != 0) = true := bne_iff_ne.mpr c24
                                    obtain rfl := Option.some.inj H
                                    go_wp2
                                    go_ret
                                    exact ⟨by first | rfl | (simp; done) | (simp [*]; done), by repeat (first | exact Drawn0.refl _ | apply Drawn0.step)⟩
                                · rw [if_neg c23] at H
                                  have c23b0 : (t154 == 0) = false := beq_eq_false_iff_ne.mpr c23
                                  have c23b1 : (t154 != 0) = true := bne_iff_ne.mpr c23
                                  obtain rfl := Option.some.inj H
                                  go_wp2
                                  go_ret
                                  exact ⟨by first | rfl | (simp; done) | (simp [*]; done), by repeat (first | exact Drawn0.refl _ | apply Drawn0.step)⟩
                              · rw [if_neg c22] at H
                                have c22b0 : (t151 == 3) = false := beq_eq_false_iff_ne.mpr c22
                                have c22b1 : (t151 != 3) = true := bne_iff_ne.mpr c22
                                obtain rfl := Option.some.inj H
                                go_wp2
                                go_ret
                                exact ⟨by first | rfl | (simp; done) | (simp [*]; done), by repeat (first | exact Drawn0.refl _ | apply Drawn0.step)⟩
                            · replace c21 := Bool.eq_false_iff.mpr c21
                              subst c21
                              have H1 : ((num_Two.f kj17 ((x7_3 + 2) % 256) t150 x2_3).bind fun bt158 => ((num_Two.f kj17 x7_3 bt158.1 t153).bind fun bt161 => (if t151 = 0 then (if t154 = 0 then (if bt158.2.2.isNone = true then (if bt161.2.2.isNone = true then (mandrellaw02_NumParts.j5 kj17 a0 x1_3 x2_3 x7_3 x8_2 t153 (bt161.1 != x1_3)) else (mandrellaw02_NumParts.j5 kj17 a0 x1_3 x2_3 x7_3 x8_2 t153 true)) else (mandrellaw02_NumParts.j5 kj17 a0 x1_3 x2_3 x7_3 x8_2 t153 true)) else (mandrellaw02_NumParts.j5 kj17 a0 x1_3 x2_3 x7_3 x8_2 t153 true)) else (mandrellaw02_NumParts.j5 kj17 a0 x1_3 x2_3 x7_3 x8_2 t153 true)))) = some r := by rw [if_neg (show ¬ (false = true) by decide)] at H; exact H
                              clear H
                              have H := H1
                              clear H1
                              replace H := Option.bind_eq_some_iff.mp H
                              obtain ⟨⟨t158, t159, t160⟩, A250, H⟩ := H
                              replace H : ((num_Two.f kj17 x7_3 t158 t153).bind fun bt161 => (if t151 = 0 then (if t154 = 0 then (if t160.isNone = true then (if bt161.2.2.isNone = true then (mandrellaw02_NumParts.j5 kj17 a0 x1_3 x2_3 x7_3 x8_2 t153 (bt161.1 != x1_3)) else (mandrellaw02_NumParts.j5 kj17 a0 x1_3 x2_3 x7_3 x8_2 t153 true)) else (mandrellaw02_NumParts.j5 kj17 a0 x1_3 x2_3 x7_3 x8_2 t153 true)) else (mandrellaw02_NumParts.j5 kj17 a0 x1_3 x2_3 x7_3 x8_2 t153 true)) else (mandrellaw02_NumParts.j5 kj17 a0 x1_3 x2_3 x7_3 x8_2 t153 true))) = some r := H
                              have A25 := Aside0.mk A250
                              clear A250
                              replace H := Option.bind_eq_some_iff.mp H
                              obtain ⟨⟨t161, t162, t163⟩, A260, H⟩ := H
                              replace H : (if t151 = 0 then (if t154 = 0 then (if t160.isNone = true then (if t163.isNone = true then (mandrellaw02_NumParts.j5 kj17 a0 x1_3 x2_3 x7_3 x8_2 t153 (t161 != x1_3)) else (mandrellaw02_NumParts.j5 kj17 a0 x1_3 x2_3 x7_3 x8_2 t153 true)) else (mandrellaw02_NumParts.j5 kj17 a0 x1_3 x2_3 x7_3 x8_2 t153 true)) else (mandrellaw02_NumParts.j5 kj17 a0 x1_3 x2_3 x7_3 x8_2 t153 true)) else (mandrellaw02_NumParts.j5 kj17 a0 x1_3 x2_3 x7_3 x8_2 t153 true)) = some r := H
                              have A26 := Aside0.mk A260
                              clear A260
                              have HC27 := Aside0.mk H
                              clear H
                              go_upto_region 24 with (first | ((with_reducible refine gate_callee (f := 10) rfl ?_); refine goesL_ _ rfl rfl Tryd.func10 (by kernel_rfl) rfl #[.int .u8 ((x7_3 + 2) % 256), .int .u64 t150, .int .u64 x2_3] rfl (by (try simp only [List.map_toArray, List.map_cons, List.map_nil]); first | done | rfl | (simp only [List.length_drop, List.length_take]; rfl)) ?_; (with_reducible refine (num_Two.calls kj17 ((x7_3 + 2) % 256) t150 x2_3 t158 t159 t160 _ A25.out).mono ?_); rintro e w' ⟨rfl, ⟨nd, rfl⟩⟩; refine ⟨_, rfl, ?_⟩; (try simp only [errW_none, errW_some])) | ((with_reducible refine gate_callee (f := 10) rfl ?_); refine goesL_ _ rfl rfl Tryd.func10 (by kernel_rfl) rfl #[.int .u8 x7_3, .int .u64 t158, .int .u64 t153] rfl (by (try simp only [List.map_toArray, List.map_cons, List.map_nil]); first | done | rfl | (simp only [List.length_drop, List.length_take]; rfl)) ?_; (with_reducible refine (num_Two.calls kj17 x7_3 t158 t153 t161 t162 t163 _ A26.out).mono ?_); rintro e w' ⟨rfl, ⟨nd, rfl⟩⟩; refine ⟨_, rfl, ?_⟩; (try simp only [errW_none, errW_some])))
                              (try simp only [Act.put, List.setIfInBounds_toArray, List.set_cons_zero, List.set_cons_succ])
                              go_cut [134] (fun v134 wc => ∃ (kq : Nat) (x134_26 : Bool), v134 = .bool x134_26 ∧ Aside0 (mandrellaw02_NumParts.j5 kq a0 x1_3 x2_3 x7_3 x8_2 t153 x134_26 = some r) ∧ Aside0 (kq ≤ kj17) ∧ Drawn0 w wc)
                              case first =>
                                have H := HC27.out
                                clear HC27
                                by_cases c28 : t151 = 0
                                · rw [if_pos c28] at H
                                  have c28b0 : (t151 == 0) = true := beq_iff_eq.mpr c28
                                  have c28b1 : (t151 != 0) = false := bne_eq_false_iff_eq.mpr c28
                                  clear c28
                                  (first | rw [c28b0] | (simp only [i64_w, i32_w]; rw [c28b0]) | skip)
                                  by_cases c29 : t154 = 0
                                  · rw [if_pos c29] at H
                                    have c29b0 : (t154 == 0) = true := beq_iff_eq.mpr c29
                                    have c29b1 : (t154 != 0) = false := bne_eq_false_iff_eq.mpr c29
                                    clear c29
                                    rcases t160 with _ | q164
                                    · have H1 : (if t163.isNone = true then (mandrellaw02_NumParts.j5 kj17 a0 x1_3 x2_3 x7_3 x8_2 t153 (t161 != x1_3)) else (mandrellaw02_NumParts.j5 kj17 a0 x1_3 x2_3 x7_3 x8_2 t153 true)) = some r := by rw [if_pos (show (none : Option Int).isNone = true by rfl)] at H; exact H
                                      clear H
                                      have H := H1
                                      clear H1
                                      try simp only [errW_none, errW_some]
                                      rcases t163 with _ | q165
                                      · have H1 : (mandrellaw02_NumParts.j5 kj17 a0 x1_3 x2_3 x7_3 x8_2 t153 (t161 != x1_3)) = some r := by rw [if_pos (show (none : Option Int).isNone = true by rfl)] at H; exact H
                                        clear H
                                        have H := H1
                                        clear H1
                                        try simp only [errW_none, errW_some]
                                        have H' := Aside0.mk H
                                        clear H
                                        go_wp2
                                        go_meet
                                        case rel => exact ⟨_, ((t161 != x1_3)), (by first | rfl | (simp; done) | (simp [*]; done)), H', ⟨by have := HJ3.out; have := HK2.out; have := HJ8.out; have := HJ15.out; have := HJ17.out; first | omega | exact Nat.le_refl _⟩, by repeat (first | exact Drawn0.refl _ | apply Drawn0.step)⟩
                                      · have H1 : (mandrellaw02_NumParts.j5 kj17 a0 x1_3 x2_3 x7_3 x8_2 t153 true) = some r := by rw [if_neg (show ¬ (some q165).isNone = true by simp)] at H; exact H
                                        clear H
                                        have H := H1
                                        clear H1
                                        try simp only [errW_none, errW_some]
                                        have H' := Aside0.mk H
                                        clear H
                                        go_wp2
                                        go_meet
                                        case rel => exact ⟨_, (true), (by first | rfl | (simp; done) | (simp [*]; done)), H', ⟨by have := HJ3.out; have := HK2.out; have := HJ8.out; have := HJ15.out; have := HJ17.out; first | omega | exact Nat.le_refl _⟩, by repeat (first | exact Drawn0.refl _ | apply Drawn0.step)⟩
                                    · have H1 : (mandrellaw02_NumParts.j5 kj17 a0 x1_3 x2_3 x7_3 x8_2 t153 true) = some r := by rw [if_neg (show ¬ (some q164).isNone = true by simp)] at H; exact H
                                      clear H
                                      have H := H1
                                      clear H1
                                      try simp only [errW_none, errW_some]
                                      have H' := Aside0.mk H
                                      clear H
                                      go_wp2
                                      go_meet
                                      case rel => exact ⟨_, (true), (by first | rfl | (simp; done) | (simp [*]; done)), H', ⟨by have := HJ3.out; have := HK2.out; have := HJ8.out; have := HJ15.out; have := HJ17.out; first | omega | exact Nat.le_refl _⟩, by repeat (first | exact Drawn0.refl _ | apply Drawn0.step)⟩
                                  · rw [if_neg c29] at H
                                    have c29b0 : (t154 == 0) = false := beq_eq_false_iff_ne.mpr c29
                                    have c29b1 : (t154 != 0) = true := bne_iff_ne.mpr c29
                                    have H' := Aside0.mk H
                                    clear H
                                    go_wp2
                                    go_meet
                                    case rel => exact ⟨_, (true), (by first | rfl | (simp; done) | (simp [*]; done)), H', ⟨by have := HJ3.out; have := HK2.out; have := HJ8.out; have := HJ15.out; have := HJ17.out; first | omega | exact Nat.le_refl _⟩, by repeat (first | exact Drawn0.refl _ | apply Drawn0.step)⟩
                                · rw [if_neg c28] at H
                                  have c28b0 : (t151 == 0) = false := beq_eq_false_iff_ne.mpr c28
                                  have c28b1 : (t151 != 0) = true := bne_iff_ne.mpr c28
                                  (first | rw [c28b0] | (simp only [i64_w, i32_w]; rw [c28b0]) | skip)
                                  have H' := Aside0.mk H
                                  clear H
                                  go_wp2
                                  go_meet
                                  case rel => exact ⟨_, (true), (by first | rfl | (simp; done) | (simp [*]; done)), H', ⟨by have := HJ3.out; have := HK2.out; have := HJ8.out; have := HJ15.out; have := HJ17.out; first | omega | exact Nat.le_refl _⟩, by repeat (first | exact Drawn0.refl _ | apply Drawn0.step)⟩
                              case rest =>
                                clear HC27
                                try clear c1
                                try clear q1
                                try clear c2
                                try clear p2
                                try clear c3
                                try clear c5
                                try clear c6
                                try clear c6b0
                                try clear c8
                                try clear c10
                                try clear c11
                                try clear c11b0
                                try clear c11b1
                                try clear c12
                                try clear c12b0
                                try clear c12b1
                                try clear c13
                                try clear c13b0
                                try clear c13b1
                                try clear c14
                                try clear c14b0
                                try clear c14b1
                                try clear c15
                                try clear c15b0
                                try clear c15b1
                                try clear q15
                                try clear q16
                                try clear c17
                                try clear c19
                                try clear c19b0
                                try clear c19b1
                                try clear c20
                                try clear c20b0
                                try clear c20b1
                                try clear c21
                                try clear c22
                                try clear c22b0
                                try clear c22b1
                                try clear c23
                                try clear c23b0
                                try clear c23b1
                                try clear c24
                                try clear c24b0
                                try clear c24b1
                                try clear c28
                                try clear c28b0
                                try clear c28b1
                                try clear c29
                                try clear c29b0
                                try clear c29b1
                                try clear p2
                                try clear q1
                                try clear q15
                                try clear q156
                                try clear q157
                                try clear q164
                                try clear q165
                                obtain ⟨kq, x134_26, rfl, HA, HJ26, ⟨mc26, rfl⟩⟩ := hcut
                                cases kq with
                                | zero => exact absurd HA.out (by simp [mandrellaw02_NumParts.j5])
                                | succ kj26 =>
                                  have H := HA.out
                                  clear HA
                                  simp only [mandrellaw02_NumParts.j5] at H
                                  by_cases c30 : x134_26 = true
                                  · subst c30
                                    have H1 : (some false) = some r := by rw [if_pos rfl] at H; exact H
                                    clear H
                                    have H := H1
                                    clear H1
                                    obtain rfl := Option.some.inj H
                                    go_wp2
                                    go_ret
                                    exact ⟨by first | rfl | (simp; done) | (simp [*]; done), by repeat (first | exact Drawn0.refl _ | apply Drawn0.step)⟩
                                  · replace c30 := Bool.eq_false_iff.mpr c30
                                    subst c30
                                    have H1 : (if x8_2 = 1 then (if t153 ≥ x2_3 then (some false) else (mandrellaw02_NumParts.l0 kj26 a0 x1_3 x2_3 x7_3 ((x8_2 + 1) % 256))) else (mandrellaw02_NumParts.l0 kj26 a0 x1_3 x2_3 x7_3 ((x8_2 + 1) % 256))) = some r := by rw [if_neg (show ¬ (false = true) by decide)] at H; exact H
                                    clear H
                                    have H := H1
                                    clear H1
                                    by_cases c31 : x8_2 = 1
                                    · rw [if_pos c31] at H
                                      have c31b0 : (x8_2 == 1) = true := beq_iff_eq.mpr c31
                                      have c31b1 : (x8_2 != 1) = false := bne_eq_false_iff_eq.mpr c31
                                      clear c31
                                      by_cases c32 : t153 ≥ x2_3
                                      · rw [if_pos c32] at H
                                        have c32b0 : decide (x2_3 ≤ t153) = true := decide_eq_true c32
                                        clear c32
                                        obtain rfl := Option.some.inj H
                                        go_wp2
                                        go_ret
                                        exact ⟨by first | rfl | (simp; done) | (simp [*]; done), by repeat (first | exact Drawn0.refl _ | apply Drawn0.step)⟩
                                      · rw [if_neg c32] at H
                                        have c32b0 : decide (x2_3 ≤ t153) = false := decide_eq_false c32
                                        clear c32
                                        have H' := Aside0.mk H
                                        clear H
                                        go_wp2
                                        go_roundg kj26
                                        case measure => have := HJ3.out; have := HK2.out; have := HJ8.out; have := HJ15.out; have := HJ17.out; have := HJ26.out; omega
                                        case rel => exact ⟨((x8_2 + 1) % 256), (by first | rfl | (simp; done) | (simp [*]; done)), H', ⟨by have := HJ3.out; have := HK2.out; have := HJ8.out; have := HJ15.out; have := HJ17.out; have := HJ26.out; omega⟩, by repeat (first | exact Drawn0.refl _ | apply Drawn0.step)⟩
                                    · rw [if_neg c31] at H
                                      have c31b0 : (x8_2 == 1) = false := beq_eq_false_iff_ne.mpr c31
                                      have c31b1 : (x8_2 != 1) = true := bne_iff_ne.mpr c31
                                      have H' := Aside0.mk H
                                      clear H
                                      go_wp2
                                      go_roundg kj26
                                      case measure => have := HJ3.out; have := HK2.out; have := HJ8.out; have := HJ15.out; have := HJ17.out; have := HJ26.out; omega
                                      case rel => exact ⟨((x8_2 + 1) % 256), (by first | rfl | (simp; done) | (simp [*]; done)), H', ⟨by have := HJ3.out; have := HK2.out; have := HJ8.out; have := HJ15.out; have := HJ17.out; have := HJ26.out; omega⟩, by repeat (first | exact Drawn0.refl _ | apply Drawn0.step)⟩
          · rw [if_neg c6] at H
            have c6b0 : decide (x8_2 < 2) = false := decide_eq_false c6
            clear c6
            replace H := Option.bind_eq_some_iff.mp H
            obtain ⟨t149, A330, H⟩ := H
            replace H : (some t149) = some r := H
            have A33 := Aside0.mk A330
            clear A330
            obtain rfl := Option.some.inj H
            go_wp2_with (first | ((with_reducible refine gate_callee (f := 11) rfl ?_); refine goesL_ _ rfl rfl Tryd.func11 (by kernel_rfl) rfl #[] rfl (by (try simp only [List.map_toArray, List.map_cons, List.map_nil]); first | done | rfl | (simp only [List.length_drop, List.length_take]; rfl)) ?_; (with_reducible refine (mandrellaw02_sure.calls k2  t149 _ ?side1 A33.out).mono ?_); (case side1 => repeat (first | exact hLT | apply LaidT.drewN | apply LaidT.drew)); rintro e w' ⟨rfl, ⟨nd, rfl⟩⟩; refine ⟨_, rfl, ?_⟩))
            go_ret
            exact ⟨by first | rfl | (simp; done) | (simp [*]; done), by repeat (first | exact Drawn0.refl _ | apply Drawn0.step)⟩

/-- THE ONE PURE STATEMENT of mandrellaw02_NumParts: yours. -/
def mandrellaw02_NumParts.Pure : Prop := ∀ (a0 : Bool) (a1 : Int) (a2 : Int), (Lit.int .u64 a1).wf = true → (Lit.int .u64 a2).wf = true → ∃ k, mandrellaw02_NumParts.f k a0 a1 a2 = some true
theorem mandrellaw02_NumParts.walk (P : mandrellaw02_NumParts.Pure) (a0 : Bool) (a1 : Int) (a2 : Int) (w : World) (w1 : (Lit.int .u64 a1).wf = true) (w2 : (Lit.int .u64 a2).wf = true) (hLT : LaidT w) :
    Calls Tryd.prog 3 #[.bool a0, .int .u64 a1, .int .u64 a2] w fun e w' => e = .returned (.bool true) ∧ Below w.heap.size w w' := by
  obtain ⟨k, h⟩ := P a0 a1 a2 w1 w2
  refine (mandrellaw02_NumParts.calls k a0 a1 a2 true w hLT h).mono ?_
  rintro e w' ⟨rfl, hd⟩
  exact ⟨rfl, hd.below⟩

end Go.Proofs.YtkpafgnchdohaaaDoor.XN
