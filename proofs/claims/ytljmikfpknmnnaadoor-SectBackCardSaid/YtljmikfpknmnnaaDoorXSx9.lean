/- Functions of the Go program as Lean functions, and the proofs that the Go code answers as they do. Written by a program of this session. -/
import Derived.Test.YtljmikfpknmnnaaDoorXSx0
import Derived.Test.YtljmikfpknmnnaaDoorXSx6
import Derived.Test.YtljmikfpknmnnaaDoorXSx8
-- slim
namespace Go.Proofs.YtljmikfpknmnnaaDoor.XS
open Go.RowKit Go.Proofs.YtljmikfpknmnnaaDoorW.PrintWords Go.Proofs.YtljmikfpknmnnaaDoorW.PrintLast Go.Proofs.YtljmikfpknmnnaaDoorW.PrintMore
attribute [local go_sem] max2_int min2_int max_two min_two max_three min_three max_four min_four   -- for this text's walks alone
set_option linter.unusedVariables false
set_option linter.unusedSimpArgs false

/-! ### mandrellaw06_sameSections: function 20 -/
def mandrellaw06_sameSections.l0 : Nat → List (S53) → List (S52) → Int → Option (Bool)
 | 0, _, _, _ => none
 | k + 1, x0, x1, x5 => if x5 < (x0.length : Int) then (if 0 ≤ x5 then (if x5 < (x1.length : Int) then (if ((rd_T53 x0 x5).f0) = ((rd_T52 x1 x5).f0) then (if ((rd_T53 x0 x5).f1) = ((rd_T52 x1 x5).f1) then (if (strOfNums ((rd_T53 x0 x5).f2)).toList = (strOfNums ((rd_T52 x1 x5).f2)).toList then (mandrellaw06_sameSections.l0 k x0 x1 (wrap64 (x5 + 1))) else (some false)) else (some false)) else (some false)) else (none)) else (none)) else (some true)
def mandrellaw06_sameSections.f (k : Nat) (l0 : List (S53)) (l1 : List (S52)) : Option (Bool) := if (l0.length : Int) = (l1.length : Int) then (mandrellaw06_sameSections.l0 k l0 l1 0) else (some false)
theorem mandrellaw06_sameSections.mono_l : ∀ k, (∀ y0 y1 y2, LeO (mandrellaw06_sameSections.l0 k y0 y1 y2) (mandrellaw06_sameSections.l0 (k + 1) y0 y1 y2))
 | 0 => fun _ _ _ r h => by simp [mandrellaw06_sameSections.l0] at h
 | k + 1 => by
  have ih0 := mandrellaw06_sameSections.mono_l k
  ·intro y0 y1 y2
   unfold mandrellaw06_sameSections.l0
   repeat' first
   | (with_reducible exact ih0 _ _ _)
   | (with_reducible exact LeO.refl _)
   | (with_reducible exact LeO.none _)
   | (with_reducible refine LeO.ite ?_ ?_)
   | (with_reducible refine LeO.bind ?_ (fun _ => ?_))
   | exact ih0 _ _ _
   | exact LeO.none _
   | refine LeO.ite ?_ ?_
   | refine LeO.bind ?_ (fun _ => ?_)
theorem mandrellaw06_sameSections.mono : ∀ a0 a1 k, LeO (mandrellaw06_sameSections.f k a0 a1) (mandrellaw06_sameSections.f (k + 1) a0 a1) := by
 intro a0 a1 k
 have ih0 := mandrellaw06_sameSections.mono_l k
 unfold mandrellaw06_sameSections.f
 repeat' first
   | (with_reducible exact ih0 _ _ _)
   | (with_reducible exact LeO.refl _)
   | (with_reducible exact LeO.none _)
   | (with_reducible refine LeO.ite ?_ ?_)
   | (with_reducible refine LeO.bind ?_ (fun _ => ?_))
   | exact ih0 _ _ _
   | exact LeO.none _
   | refine LeO.ite ?_ ?_
   | refine LeO.bind ?_ (fun _ => ?_)
set_option maxHeartbeats 8000000 in
set_option maxRecDepth 100000 in
theorem mandrellaw06_sameSections.calls (k : Nat) (A0 : Option Addr) (c0 : Nat) (l0 : List (S53)) (A1 : Option Addr) (c1 : Nat) (l1 : List (S52)) (r : Bool) (w : World) (hr0 : Kd.C k53 w A0 l0.length l0) (hc0 : l0.length ≤ c0) (hr1 : Kd.C k52 w A1 l1.length l1) (hc1 : l1.length ≤ c1) (h : mandrellaw06_sameSections.f k l0 l1 = some r) :
  Calls Tryd.prog 20 #[.slice A0 l0.length c0, .slice A1 l1.length c1] w fun e w' => e = .returned (.bool r) ∧ Drawn0 w w' := by
 have HR0 := Aside0.mk hr0
 have HC0 := Aside0.mk hc0
 clear hr0 hc0
 have HR1 := Aside0.mk hr1
 have HC1 := Aside0.mk hc1
 clear hr1 hc1
 have H : (if (l0.length : Int) = (l1.length : Int) then (mandrellaw06_sameSections.l0 k l0 l1 0) else (some false)) = some r := h
 clear h
 by_cases c3 : (l0.length : Int) = (l1.length : Int)
 ·rw [if_pos c3] at H
  have c3b0 : ((l0.length : Int) == (l1.length : Int)) = true := beq_iff_eq.mpr c3
  have c3b1 : ((l0.length : Int) != (l1.length : Int)) = false := bne_eq_false_iff_eq.mpr c3
  have c3b2 : (l0.length == l1.length) = true := by first | simpa using c3 | (simp at c3 ⊢; omega)
  clear c3
  have H' := Aside0.mk H
  clear H
  go_enter Tryd.func20, Tryd.ntmps20
  go_wp2
  repeat (go_quiet (fail); try go_wp2)
  go_loopg [5] k (fun kq v5 w' => ∃ (x5_1 : Int), v5 = .int .i64 x5_1 ∧ Aside0 (mandrellaw06_sameSections.l0 kq l0 l1 x5_1 = some r) ∧ Aside0 (kq ≤ k) ∧ Drawn0 w w')
  case atStart => exact ⟨(0), (by first | rfl | (simp; done) | (simp [*]; done)), H', ⟨Nat.le_refl _⟩, by repeat (first | exact Drawn0.refl _ | apply Drawn0.step)⟩
  case round =>
   clear H'
   (try clear c1); (try clear c2); (try clear p2); (try clear c3); (try clear c3b0); (try clear c3b1); (try clear c3b2)
   obtain ⟨x5_1, rfl, HA, HK1, ⟨m1, rfl⟩⟩ := hrel
   cases gk with
   | zero => exact absurd HA.out (by simp [mandrellaw06_sameSections.l0])
   | succ k1 =>
    have H := HA.out
    clear HA
    simp only [mandrellaw06_sameSections.l0] at H
    by_cases c4 : x5_1 < (l0.length : Int)
    ·rw [if_pos c4] at H
     have c4b0 : decide (x5_1 < (l0.length : Int)) = true := decide_eq_true c4
     clear c4
     by_cases c5 : 0 ≤ x5_1
     ·rw [if_pos c5] at H
      have c5b0 : decide (0 ≤ x5_1) = true := decide_eq_true c5
      clear c5
      by_cases c6 : x5_1 < (l1.length : Int)
      ·rw [if_pos c6] at H
       have c6b0 : decide (x5_1 < (l1.length : Int)) = true := decide_eq_true c6
       clear c6
       by_cases c7 : ((rd_T53 l0 x5_1).f0) = ((rd_T52 l1 x5_1).f0)
       ·rw [if_pos c7] at H
        have c7b0 : (((rd_T53 l0 x5_1).f0) == ((rd_T52 l1 x5_1).f0)) = true := beq_iff_eq.mpr c7
        have c7b1 : (((rd_T53 l0 x5_1).f0) != ((rd_T52 l1 x5_1).f0)) = false := bne_eq_false_iff_eq.mpr c7
        clear c7
        by_cases c8 : ((rd_T53 l0 x5_1).f1) = ((rd_T52 l1 x5_1).f1)
        ·rw [if_pos c8] at H
         have c8b0 : (((rd_T53 l0 x5_1).f1) == ((rd_T52 l1 x5_1).f1)) = true := beq_iff_eq.mpr c8
         have c8b1 : (((rd_T53 l0 x5_1).f1) != ((rd_T52 l1 x5_1).f1)) = false := bne_eq_false_iff_eq.mpr c8
         clear c8
         by_cases c9 : (strOfNums ((rd_T53 l0 x5_1).f2)).toList = (strOfNums ((rd_T52 l1 x5_1).f2)).toList
         ·rw [if_pos c9] at H
          have c9b0 : ((strOfNums ((rd_T53 l0 x5_1).f2)).toList == (strOfNums ((rd_T52 l1 x5_1).f2)).toList) = true := beq_iff_eq.mpr c9
          have c9b1 : ((strOfNums ((rd_T53 l0 x5_1).f2)).toList != (strOfNums ((rd_T52 l1 x5_1).f2)).toList) = false := bne_eq_false_iff_eq.mpr c9
          clear c9
          have H' := Aside0.mk H
          clear H
          have p310 : 0 ≤ (x5_1 : Int) := of_decide_eq_true (by first | (with_reducible assumption) | assumption)
          have q310 : x5_1 < (l0.length : Int) := of_decide_eq_true (by first | (with_reducible assumption) | assumption)
          obtain ⟨ad310, A310_2, c310_2, e310, hx310_0, hx310_1, hx310_2, hl310_2, hi310_2⟩ := at_T53 HR0.out x5_1 p310 q310
          cases e310
          have HR310_2 := Aside0.mk hi310_2
          have HC310_2 := Aside0.mk hl310_2
          clear hi310_2 hl310_2
          replace p310 := eq_true p310
          replace q310 := eq_true q310
          have p311 : 0 ≤ (x5_1 : Int) := of_decide_eq_true (by first | (with_reducible assumption) | assumption)
          have q311 : x5_1 < (l1.length : Int) := of_decide_eq_true (by first | (with_reducible assumption) | assumption)
          obtain ⟨ad311, A311_2, c311_2, e311, hx311_0, hx311_1, hx311_2, hl311_2, hi311_2⟩ := at_T52 HR1.out x5_1 p311 q311
          cases e311
          have HR311_2 := Aside0.mk hi311_2
          have HC311_2 := Aside0.mk hl311_2
          clear hi311_2 hl311_2
          replace p311 := eq_true p311
          replace q311 := eq_true q311
          have p312 : 0 ≤ (x5_1 : Int) := of_decide_eq_true (by first | (with_reducible assumption) | assumption)
          have q312 : x5_1 < (l0.length : Int) := of_decide_eq_true (by first | (with_reducible assumption) | assumption)
          obtain ⟨ad312, A312_2, c312_2, e312, hx312_0, hx312_1, hx312_2, hl312_2, hi312_2⟩ := at_T53 HR0.out x5_1 p312 q312
          obtain rfl : ad310 = ad312 := (by injection e312)
          have HR312_2 := Aside0.mk hi312_2
          have HC312_2 := Aside0.mk hl312_2
          clear hi312_2 hl312_2
          replace p312 := eq_true p312
          replace q312 := eq_true q312
          have ea_ := Option.some.inj (hx310_2.symm.trans hx312_2)
          injection ea_ with ea_ en_ ec_
          subst ea_
          subst ec_
          clear en_
          have p313 : 0 ≤ (x5_1 : Int) := of_decide_eq_true (by first | (with_reducible assumption) | assumption)
          have q313 : x5_1 < (l1.length : Int) := of_decide_eq_true (by first | (with_reducible assumption) | assumption)
          obtain ⟨ad313, A313_2, c313_2, e313, hx313_0, hx313_1, hx313_2, hl313_2, hi313_2⟩ := at_T52 HR1.out x5_1 p313 q313
          obtain rfl : ad311 = ad313 := (by injection e313)
          have HR313_2 := Aside0.mk hi313_2
          have HC313_2 := Aside0.mk hl313_2
          clear hi313_2 hl313_2
          replace p313 := eq_true p313
          replace q313 := eq_true q313
          have ea_ := Option.some.inj (hx311_2.symm.trans hx313_2)
          injection ea_ with ea_ en_ ec_
          subst ea_
          subst ec_
          clear en_
          have p314 : 0 ≤ (x5_1 : Int) := of_decide_eq_true (by first | (with_reducible assumption) | assumption)
          have q314 : x5_1 < (l0.length : Int) := of_decide_eq_true (by first | (with_reducible assumption) | assumption)
          obtain ⟨ad314, A314_2, c314_2, e314, hx314_0, hx314_1, hx314_2, hl314_2, hi314_2⟩ := at_T53 HR0.out x5_1 p314 q314
          obtain rfl : ad310 = ad314 := (by injection e314)
          have HR314_2 := Aside0.mk hi314_2
          have HC314_2 := Aside0.mk hl314_2
          clear hi314_2 hl314_2
          replace p314 := eq_true p314
          replace q314 := eq_true q314
          have ea_ := Option.some.inj (hx310_2.symm.trans hx314_2)
          injection ea_ with ea_ en_ ec_
          subst ea_
          subst ec_
          clear en_
          have hcv10 := Kd.C_string (P := Tryd.prog) (A := A310_2) (c := c310_2) Tryd.underlying22 Tryd.underlying5 Tryd.underlying9 HR314_2.out
          have hcv11 := fun n_ : Nat => Kd.C_string (P := Tryd.prog) (A := A310_2) (c := c310_2) Tryd.underlying22 Tryd.underlying5 Tryd.underlying9 (Kd.C_below HR314_2.out (pw_below_drewN (Below.refl _ _) n_))
          have p315 : 0 ≤ (x5_1 : Int) := of_decide_eq_true (by first | (with_reducible assumption) | assumption)
          have q315 : x5_1 < (l1.length : Int) := of_decide_eq_true (by first | (with_reducible assumption) | assumption)
          obtain ⟨ad315, A315_2, c315_2, e315, hx315_0, hx315_1, hx315_2, hl315_2, hi315_2⟩ := at_T52 HR1.out x5_1 p315 q315
          obtain rfl : ad311 = ad315 := (by injection e315)
          have HR315_2 := Aside0.mk hi315_2
          have HC315_2 := Aside0.mk hl315_2
          clear hi315_2 hl315_2
          replace p315 := eq_true p315
          replace q315 := eq_true q315
          have ea_ := Option.some.inj (hx311_2.symm.trans hx315_2)
          injection ea_ with ea_ en_ ec_
          subst ea_
          subst ec_
          clear en_
          have hcv12 := Kd.C_string (P := Tryd.prog) (A := A311_2) (c := c311_2) Tryd.underlying22 Tryd.underlying5 Tryd.underlying9 HR315_2.out
          have hcv13 := fun n_ : Nat => Kd.C_string (P := Tryd.prog) (A := A311_2) (c := c311_2) Tryd.underlying22 Tryd.underlying5 Tryd.underlying9 (Kd.C_below HR315_2.out (pw_below_drewN (Below.refl _ _) n_))
          go_wp2
          repeat (go_quiet (fail); try go_wp2)
          go_roundg k1
          case measure => have := HK1.out; omega
          case rel => exact ⟨(wrap64 (x5_1 + 1)), (by first | rfl | (simp; done) | (simp [*]; done)), H', ⟨by have := HK1.out; omega⟩, by repeat (first | exact Drawn0.refl _ | apply Drawn0.step)⟩
         ·rw [if_neg c9] at H
          have c9b0 : ((strOfNums ((rd_T53 l0 x5_1).f2)).toList == (strOfNums ((rd_T52 l1 x5_1).f2)).toList) = false := beq_eq_false_iff_ne.mpr c9
          have c9b1 : ((strOfNums ((rd_T53 l0 x5_1).f2)).toList != (strOfNums ((rd_T52 l1 x5_1).f2)).toList) = true := bne_iff_ne.mpr c9
          obtain rfl := Option.some.inj H
          have p310 : 0 ≤ (x5_1 : Int) := of_decide_eq_true (by first | (with_reducible assumption) | assumption)
          have q310 : x5_1 < (l0.length : Int) := of_decide_eq_true (by first | (with_reducible assumption) | assumption)
          obtain ⟨ad310, A310_2, c310_2, e310, hx310_0, hx310_1, hx310_2, hl310_2, hi310_2⟩ := at_T53 HR0.out x5_1 p310 q310
          cases e310
          have HR310_2 := Aside0.mk hi310_2
          have HC310_2 := Aside0.mk hl310_2
          clear hi310_2 hl310_2
          replace p310 := eq_true p310
          replace q310 := eq_true q310
          have p311 : 0 ≤ (x5_1 : Int) := of_decide_eq_true (by first | (with_reducible assumption) | assumption)
          have q311 : x5_1 < (l1.length : Int) := of_decide_eq_true (by first | (with_reducible assumption) | assumption)
          obtain ⟨ad311, A311_2, c311_2, e311, hx311_0, hx311_1, hx311_2, hl311_2, hi311_2⟩ := at_T52 HR1.out x5_1 p311 q311
          cases e311
          have HR311_2 := Aside0.mk hi311_2
          have HC311_2 := Aside0.mk hl311_2
          clear hi311_2 hl311_2
          replace p311 := eq_true p311
          replace q311 := eq_true q311
          have p312 : 0 ≤ (x5_1 : Int) := of_decide_eq_true (by first | (with_reducible assumption) | assumption)
          have q312 : x5_1 < (l0.length : Int) := of_decide_eq_true (by first | (with_reducible assumption) | assumption)
          obtain ⟨ad312, A312_2, c312_2, e312, hx312_0, hx312_1, hx312_2, hl312_2, hi312_2⟩ := at_T53 HR0.out x5_1 p312 q312
          obtain rfl : ad310 = ad312 := (by injection e312)
          have HR312_2 := Aside0.mk hi312_2
          have HC312_2 := Aside0.mk hl312_2
          clear hi312_2 hl312_2
          replace p312 := eq_true p312
          replace q312 := eq_true q312
          have ea_ := Option.some.inj (hx310_2.symm.trans hx312_2)
          injection ea_ with ea_ en_ ec_
          subst ea_
          subst ec_
          clear en_
          have p313 : 0 ≤ (x5_1 : Int) := of_decide_eq_true (by first | (with_reducible assumption) | assumption)
          have q313 : x5_1 < (l1.length : Int) := of_decide_eq_true (by first | (with_reducible assumption) | assumption)
          obtain ⟨ad313, A313_2, c313_2, e313, hx313_0, hx313_1, hx313_2, hl313_2, hi313_2⟩ := at_T52 HR1.out x5_1 p313 q313
          obtain rfl : ad311 = ad313 := (by injection e313)
          have HR313_2 := Aside0.mk hi313_2
          have HC313_2 := Aside0.mk hl313_2
          clear hi313_2 hl313_2
          replace p313 := eq_true p313
          replace q313 := eq_true q313
          have ea_ := Option.some.inj (hx311_2.symm.trans hx313_2)
          injection ea_ with ea_ en_ ec_
          subst ea_
          subst ec_
          clear en_
          have p314 : 0 ≤ (x5_1 : Int) := of_decide_eq_true (by first | (with_reducible assumption) | assumption)
          have q314 : x5_1 < (l0.length : Int) := of_decide_eq_true (by first | (with_reducible assumption) | assumption)
          obtain ⟨ad314, A314_2, c314_2, e314, hx314_0, hx314_1, hx314_2, hl314_2, hi314_2⟩ := at_T53 HR0.out x5_1 p314 q314
          obtain rfl : ad310 = ad314 := (by injection e314)
          have HR314_2 := Aside0.mk hi314_2
          have HC314_2 := Aside0.mk hl314_2
          clear hi314_2 hl314_2
          replace p314 := eq_true p314
          replace q314 := eq_true q314
          have ea_ := Option.some.inj (hx310_2.symm.trans hx314_2)
          injection ea_ with ea_ en_ ec_
          subst ea_
          subst ec_
          clear en_
          have hcv14 := Kd.C_string (P := Tryd.prog) (A := A310_2) (c := c310_2) Tryd.underlying22 Tryd.underlying5 Tryd.underlying9 HR314_2.out
          have hcv15 := fun n_ : Nat => Kd.C_string (P := Tryd.prog) (A := A310_2) (c := c310_2) Tryd.underlying22 Tryd.underlying5 Tryd.underlying9 (Kd.C_below HR314_2.out (pw_below_drewN (Below.refl _ _) n_))
          have p315 : 0 ≤ (x5_1 : Int) := of_decide_eq_true (by first | (with_reducible assumption) | assumption)
          have q315 : x5_1 < (l1.length : Int) := of_decide_eq_true (by first | (with_reducible assumption) | assumption)
          obtain ⟨ad315, A315_2, c315_2, e315, hx315_0, hx315_1, hx315_2, hl315_2, hi315_2⟩ := at_T52 HR1.out x5_1 p315 q315
          obtain rfl : ad311 = ad315 := (by injection e315)
          have HR315_2 := Aside0.mk hi315_2
          have HC315_2 := Aside0.mk hl315_2
          clear hi315_2 hl315_2
          replace p315 := eq_true p315
          replace q315 := eq_true q315
          have ea_ := Option.some.inj (hx311_2.symm.trans hx315_2)
          injection ea_ with ea_ en_ ec_
          subst ea_
          subst ec_
          clear en_
          have hcv16 := Kd.C_string (P := Tryd.prog) (A := A311_2) (c := c311_2) Tryd.underlying22 Tryd.underlying5 Tryd.underlying9 HR315_2.out
          have hcv17 := fun n_ : Nat => Kd.C_string (P := Tryd.prog) (A := A311_2) (c := c311_2) Tryd.underlying22 Tryd.underlying5 Tryd.underlying9 (Kd.C_below HR315_2.out (pw_below_drewN (Below.refl _ _) n_))
          go_wp2
          repeat (go_quiet (fail); try go_wp2)
          go_ret
          exact ⟨by first | rfl | (simp; done) | (simp [*]; done), by repeat (first | exact Drawn0.refl _ | apply Drawn0.step)⟩
        ·rw [if_neg c8] at H
         have c8b0 : (((rd_T53 l0 x5_1).f1) == ((rd_T52 l1 x5_1).f1)) = false := beq_eq_false_iff_ne.mpr c8
         have c8b1 : (((rd_T53 l0 x5_1).f1) != ((rd_T52 l1 x5_1).f1)) = true := bne_iff_ne.mpr c8
         obtain rfl := Option.some.inj H
         have p310 : 0 ≤ (x5_1 : Int) := of_decide_eq_true (by first | (with_reducible assumption) | assumption)
         have q310 : x5_1 < (l0.length : Int) := of_decide_eq_true (by first | (with_reducible assumption) | assumption)
         obtain ⟨ad310, A310_2, c310_2, e310, hx310_0, hx310_1, hx310_2, hl310_2, hi310_2⟩ := at_T53 HR0.out x5_1 p310 q310
         cases e310
         have HR310_2 := Aside0.mk hi310_2
         have HC310_2 := Aside0.mk hl310_2
         clear hi310_2 hl310_2
         replace p310 := eq_true p310
         replace q310 := eq_true q310
         have p311 : 0 ≤ (x5_1 : Int) := of_decide_eq_true (by first | (with_reducible assumption) | assumption)
         have q311 : x5_1 < (l1.length : Int) := of_decide_eq_true (by first | (with_reducible assumption) | assumption)
         obtain ⟨ad311, A311_2, c311_2, e311, hx311_0, hx311_1, hx311_2, hl311_2, hi311_2⟩ := at_T52 HR1.out x5_1 p311 q311
         cases e311
         have HR311_2 := Aside0.mk hi311_2
         have HC311_2 := Aside0.mk hl311_2
         clear hi311_2 hl311_2
         replace p311 := eq_true p311
         replace q311 := eq_true q311
         have p312 : 0 ≤ (x5_1 : Int) := of_decide_eq_true (by first | (with_reducible assumption) | assumption)
         have q312 : x5_1 < (l0.length : Int) := of_decide_eq_true (by first | (with_reducible assumption) | assumption)
         obtain ⟨ad312, A312_2, c312_2, e312, hx312_0, hx312_1, hx312_2, hl312_2, hi312_2⟩ := at_T53 HR0.out x5_1 p312 q312
         obtain rfl : ad310 = ad312 := (by injection e312)
         have HR312_2 := Aside0.mk hi312_2
         have HC312_2 := Aside0.mk hl312_2
         clear hi312_2 hl312_2
         replace p312 := eq_true p312
         replace q312 := eq_true q312
         have ea_ := Option.some.inj (hx310_2.symm.trans hx312_2)
         injection ea_ with ea_ en_ ec_
         subst ea_
         subst ec_
         clear en_
         have p313 : 0 ≤ (x5_1 : Int) := of_decide_eq_true (by first | (with_reducible assumption) | assumption)
         have q313 : x5_1 < (l1.length : Int) := of_decide_eq_true (by first | (with_reducible assumption) | assumption)
         obtain ⟨ad313, A313_2, c313_2, e313, hx313_0, hx313_1, hx313_2, hl313_2, hi313_2⟩ := at_T52 HR1.out x5_1 p313 q313
         obtain rfl : ad311 = ad313 := (by injection e313)
         have HR313_2 := Aside0.mk hi313_2
         have HC313_2 := Aside0.mk hl313_2
         clear hi313_2 hl313_2
         replace p313 := eq_true p313
         replace q313 := eq_true q313
         have ea_ := Option.some.inj (hx311_2.symm.trans hx313_2)
         injection ea_ with ea_ en_ ec_
         subst ea_
         subst ec_
         clear en_
         go_wp2
         repeat (go_quiet (fail); try go_wp2)
         go_ret
         exact ⟨by first | rfl | (simp; done) | (simp [*]; done), by repeat (first | exact Drawn0.refl _ | apply Drawn0.step)⟩
       ·rw [if_neg c7] at H
        have c7b0 : (((rd_T53 l0 x5_1).f0) == ((rd_T52 l1 x5_1).f0)) = false := beq_eq_false_iff_ne.mpr c7
        have c7b1 : (((rd_T53 l0 x5_1).f0) != ((rd_T52 l1 x5_1).f0)) = true := bne_iff_ne.mpr c7
        obtain rfl := Option.some.inj H
        have p310 : 0 ≤ (x5_1 : Int) := of_decide_eq_true (by first | (with_reducible assumption) | assumption)
        have q310 : x5_1 < (l0.length : Int) := of_decide_eq_true (by first | (with_reducible assumption) | assumption)
        obtain ⟨ad310, A310_2, c310_2, e310, hx310_0, hx310_1, hx310_2, hl310_2, hi310_2⟩ := at_T53 HR0.out x5_1 p310 q310
        cases e310
        have HR310_2 := Aside0.mk hi310_2
        have HC310_2 := Aside0.mk hl310_2
        clear hi310_2 hl310_2
        replace p310 := eq_true p310
        replace q310 := eq_true q310
        have p311 : 0 ≤ (x5_1 : Int) := of_decide_eq_true (by first | (with_reducible assumption) | assumption)
        have q311 : x5_1 < (l1.length : Int) := of_decide_eq_true (by first | (with_reducible assumption) | assumption)
        obtain ⟨ad311, A311_2, c311_2, e311, hx311_0, hx311_1, hx311_2, hl311_2, hi311_2⟩ := at_T52 HR1.out x5_1 p311 q311
        cases e311
        have HR311_2 := Aside0.mk hi311_2
        have HC311_2 := Aside0.mk hl311_2
        clear hi311_2 hl311_2
        replace p311 := eq_true p311
        replace q311 := eq_true q311
        go_wp2
        repeat (go_quiet (fail); try go_wp2)
        go_ret
        exact ⟨by first | rfl | (simp; done) | (simp [*]; done), by repeat (first | exact Drawn0.refl _ | apply Drawn0.step)⟩
      ·rw [if_neg c6] at H
       exact absurd H (by simp)
     ·rw [if_neg c5] at H
      exact absurd H (by simp)
    ·rw [if_neg c4] at H
     have c4b0 : decide (x5_1 < (l0.length : Int)) = false := decide_eq_false c4
     clear c4
     obtain rfl := Option.some.inj H
     go_wp2
     repeat (go_quiet (fail); try go_wp2)
     go_ret
     exact ⟨by first | rfl | (simp; done) | (simp [*]; done), by repeat (first | exact Drawn0.refl _ | apply Drawn0.step)⟩
 ·rw [if_neg c3] at H
  have c3b0 : ((l0.length : Int) == (l1.length : Int)) = false := beq_eq_false_iff_ne.mpr c3
  have c3b1 : ((l0.length : Int) != (l1.length : Int)) = true := bne_iff_ne.mpr c3
  have c3b2 : (l0.length == l1.length) = false := by first | simpa using c3 | (simp at c3 ⊢; omega)
  obtain rfl := Option.some.inj H
  go_enter Tryd.func20, Tryd.ntmps20
  go_wp2
  repeat (go_quiet (fail); try go_wp2)
  go_ret
  exact ⟨by first | rfl | (simp; done) | (simp [*]; done), by repeat (first | exact Drawn0.refl _ | apply Drawn0.step)⟩

/-! ### mandrellaw06_num: function 21: the contract is by hand -/
def mandrellaw06_num.f (a0 : Option Int) : Option Int := some (a0.getD 0)
set_option maxHeartbeats 4000000 in
theorem mandrellaw06_num.calls (a0 : Option Int) (r : Int) (w : World) (hLE : LaidE w) (h : mandrellaw06_num.f a0 = some r) :
  Calls Tryd.prog 21 #[errW a0] w fun e w' => e = .returned (.int .i64 r) ∧ Below w.heap.size w w' := by
 obtain rfl : a0.getD 0 = r := Option.some.inj h
 clear h
 rcases a0 with _ | q
 ·simp only [errW_none]
  have hu25 := Tryd.underlying25
  go_enter Tryd.func21, Tryd.ntmps21
  go_wp2
  go_ret
  exact ⟨rfl, below_alloc (Below.refl _ _) _⟩
 ·simp only [errW_some]
  have hu25 := Tryd.underlying25
  have hu66 := Tryd.underlying66
  have HL := Aside0.mk hLE
  clear hLE
  have HT : Aside0 ((w.alloc (.cells #[.int .i64 0] 66)).cell? ⟨w.heap.size, 0, none⟩ = some (.int .i64 0)) := ⟨by simp⟩
  have HF : Aside0 ((w.alloc (.cells #[.int .i64 0] 66)).frozen? ⟨w.heap.size, 0, none⟩ = false) := ⟨by simp⟩
  have HG : Aside0 (LaidE (w.alloc (.cells #[.int .i64 0] 66))) := ⟨HL.out.below (below_alloc (Below.refl _ _) _)⟩
  go_enter Tryd.func21, Tryd.ntmps21
  go_wp2_with (go_at_call 32; refine (Go.Proofs.YtljmikfpknmnnaaDoor.As.as_hit q ⟨w.heap.size, 0, none⟩ (.int .i64 0) _ HG.out.et HT.out HF.out).mono ?_; rintro e w' ⟨rfl, rfl⟩)
  go_ret
  exact ⟨rfl, by first | exact below_alloc (below_alloc (below_alloc (below_alloc (below_alloc (Below.refl _ _) _) _) _) _) _ | exact (below_alloc (below_alloc (below_alloc (below_alloc (below_alloc (Below.refl _ _) _) _) _) _) _).setCell (Nat.le_refl _) _⟩

end Go.Proofs.YtljmikfpknmnnaaDoor.XS
