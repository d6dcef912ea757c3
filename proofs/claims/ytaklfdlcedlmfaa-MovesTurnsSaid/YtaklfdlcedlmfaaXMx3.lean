/- Functions of the Go program as Lean functions, and the proofs that the Go code answers as they do. Written by a program of this session. -/
import Derived.Test.YtaklfdlcedlmfaaXMx0
import Derived.Test.YtaklfdlcedlmfaaXMx1
import Derived.Test.YtaklfdlcedlmfaaXMx2
namespace Go.Proofs.Ytaklfdlcedlmfaa.XM
open Go.RowKit Go.Proofs.YtaklfdlcedlmfaaW.PrintWords Go.Proofs.YtaklfdlcedlmfaaW.PrintLast Go.Proofs.YtaklfdlcedlmfaaW.PrintMore
attribute [local go_sem] max2_int min2_int max_two min_two max_three min_three max_four min_four   -- for this text's walks alone
set_option linter.unusedVariables false
set_option linter.unusedSimpArgs false

/-! ### mandrellaw20_MovesTurns: function 3 -/
mutual
def mandrellaw20_MovesTurns.l0 : Nat → Int → Int → List (S25) → Int → Option (Bool)
  | 0, _, _, _, _ => none
  | k + 1, x5, x6, x7, x8 => if x8 < x5 then (if x5 = 0 then (none) else (if x7.length < 8796093022208 then (mandrellaw20_MovesTurns.l0 k x5 x6 (x7 ++ [(⟨wrap64 (x6 + (Int.tmod (wrap64 (x8 + 1)) x5)), wrap64 (x6 + x8)⟩ : S25)]) (wrap64 (x8 + 1))) else (none))) else ((moves_Rings.f x7).bind fun bt133 => ((moves_Plan.f x7 500).bind fun bt137 => (if bt133.2.isNone = true then (if bt137.2.isNone = true then (if (bt133.1.length : Int) = 1 then (if 0 < (bt133.1.length : Int) then (if ((rd_L3 bt133.1 0).length : Int) = x5 then (mandrellaw20_MovesTurns.j1 k x5 x6 bt137.1 ((bt137.1.length : Int) != (wrap64 (x5 + 1)))) else (mandrellaw20_MovesTurns.j1 k x5 x6 bt137.1 true)) else (none)) else (mandrellaw20_MovesTurns.j1 k x5 x6 bt137.1 true)) else (mandrellaw20_MovesTurns.j1 k x5 x6 bt137.1 true)) else (mandrellaw20_MovesTurns.j1 k x5 x6 bt137.1 true))))
def mandrellaw20_MovesTurns.j1 : Nat → Int → Int → List (S25) → Bool → Option (Bool)
  | 0, _, _, _, _ => none
  | k + 1, x5, x6, x11, x79 => if x79 = true then (some false) else (if 501 ≤ 35184372088832 then (mandrellaw20_MovesTurns.l1 k x5 x6 x11 (List.replicate 501 0) 0) else (none))
def mandrellaw20_MovesTurns.l1 : Nat → Int → Int → List (S25) → List Int → Int → Option (Bool)
  | 0, _, _, _, _, _ => none
  | k + 1, x5, x6, x11, x13, x14 => if x14 < x5 then (if 0 ≤ (wrap64 (x6 + x14)) then (if (wrap64 (x6 + x14)) < (x13.length : Int) then (mandrellaw20_MovesTurns.l1 k x5 x6 x11 (x13.set ((wrap64 (x6 + x14)) : Int).toNat (IntKind.u64.wrap (wrap64 (x14 + 1)))) (wrap64 (x14 + 1))) else (none)) else (none)) else (mandrellaw20_MovesTurns.l2 k x5 x6 x11 x13 0)
def mandrellaw20_MovesTurns.l2 : Nat → Int → Int → List (S25) → List Int → Int → Option (Bool)
  | 0, _, _, _, _, _ => none
  | k + 1, x5, x6, x11, x13, x15 => if x15 < x5 then ((moves_Do.f k x13 x11).bind fun bt148 => (if bt148.1.isNone = true then (if x5 = 0 then (none) else (if 0 ≤ (wrap64 (x6 + (Int.tmod (wrap64 (x15 + 1)) x5))) then (if (wrap64 (x6 + (Int.tmod (wrap64 (x15 + 1)) x5))) < (x13.length : Int) then (if (rd bt148.2 (wrap64 (x6 + (Int.tmod (wrap64 (x15 + 1)) x5)))) = 1 then (mandrellaw20_MovesTurns.l2 k x5 x6 x11 bt148.2 (wrap64 (x15 + 1))) else (some false)) else (none)) else (none))) else (some false))) else (mandrellaw20_MovesTurns.l3 k x5 x6 x13 0)
def mandrellaw20_MovesTurns.l3 : Nat → Int → Int → List Int → Int → Option (Bool)
  | 0, _, _, _, _ => none
  | k + 1, x5, x6, x13, x16 => if x16 < x5 then (if 0 ≤ (wrap64 (x6 + x16)) then (if (wrap64 (x6 + x16)) < (x13.length : Int) then (if (rd x13 (wrap64 (x6 + x16))) = (IntKind.u64.wrap (wrap64 (x16 + 1))) then (mandrellaw20_MovesTurns.l3 k x5 x6 x13 (wrap64 (x16 + 1))) else (some false)) else (none)) else (none)) else ((mandrellaw20_sure.f k).bind fun t153 => (some t153))
end
def mandrellaw20_MovesTurns.f (k : Nat) (a0 : Int) (a1 : Int) : Option (Bool) := mandrellaw20_MovesTurns.l0 k (wrap64 (2 + (wrap64 (Int.tmod (IntKind.u64.wrap (a0)) 30)))) (wrap64 (Int.tmod (IntKind.u64.wrap (a1)) 100)) ([] : List (S25)) 0
theorem mandrellaw20_MovesTurns.mono_l : ∀ k, (∀ y0 y1 y2 y3, LeO (mandrellaw20_MovesTurns.l0 k y0 y1 y2 y3) (mandrellaw20_MovesTurns.l0 (k + 1) y0 y1 y2 y3)) ∧ (∀ y0 y1 y2 y3, LeO (mandrellaw20_MovesTurns.j1 k y0 y1 y2 y3) (mandrellaw20_MovesTurns.j1 (k + 1) y0 y1 y2 y3)) ∧ (∀ y0 y1 y2 y3 y4, LeO (mandrellaw20_MovesTurns.l1 k y0 y1 y2 y3 y4) (mandrellaw20_MovesTurns.l1 (k + 1) y0 y1 y2 y3 y4)) ∧ (∀ y0 y1 y2 y3 y4, LeO (mandrellaw20_MovesTurns.l2 k y0 y1 y2 y3 y4) (mandrellaw20_MovesTurns.l2 (k + 1) y0 y1 y2 y3 y4)) ∧ (∀ y0 y1 y2 y3, LeO (mandrellaw20_MovesTurns.l3 k y0 y1 y2 y3) (mandrellaw20_MovesTurns.l3 (k + 1) y0 y1 y2 y3))
  | 0 => ⟨fun _ _ _ _ r h => by simp [mandrellaw20_MovesTurns.l0] at h, fun _ _ _ _ r h => by simp [mandrellaw20_MovesTurns.j1] at h, fun _ _ _ _ _ r h => by simp [mandrellaw20_MovesTurns.l1] at h, fun _ _ _ _ _ r h => by simp [mandrellaw20_MovesTurns.l2] at h, fun _ _ _ _ r h => by simp [mandrellaw20_MovesTurns.l3] at h⟩
  | k + 1 => by
    obtain ⟨ih0, ih1, ih2, ih3, ih4⟩ := mandrellaw20_MovesTurns.mono_l k
    refine ⟨?_, ?_, ?_, ?_, ?_⟩
    · intro y0 y1 y2 y3
      unfold mandrellaw20_MovesTurns.l0
      repeat' first
      | (with_reducible exact ih0 _ _ _ _)
      | (with_reducible exact ih1 _ _ _ _)
      | (with_reducible exact ih2 _ _ _ _ _)
      | (with_reducible exact ih3 _ _ _ _ _)
      | (with_reducible exact ih4 _ _ _ _)
      | (with_reducible exact mandrellaw20_sure.mono _)
      | (with_reducible exact moves_Do.mono _ _ _)
      | (with_reducible exact LeO.refl _)
      | (with_reducible exact LeO.none _)
      | (with_reducible refine LeO.ite ?_ ?_)
      | (with_reducible refine LeO.bind ?_ (fun _ => ?_))
      | exact ih0 _ _ _ _
      | exact ih1 _ _ _ _
      | exact ih2 _ _ _ _ _
      | exact ih3 _ _ _ _ _
      | exact ih4 _ _ _ _
      | exact mandrellaw20_sure.mono _
      | exact moves_Do.mono _ _ _
      | exact LeO.none _
      | refine LeO.ite ?_ ?_
      | refine LeO.bind ?_ (fun _ => ?_)
    · intro y0 y1 y2 y3
      unfold mandrellaw20_MovesTurns.j1
      repeat' first
      | (with_reducible exact ih0 _ _ _ _)
      | (with_reducible exact ih1 _ _ _ _)
      | (with_reducible exact ih2 _ _ _ _ _)
      | (with_reducible exact ih3 _ _ _ _ _)
      | (with_reducible exact ih4 _ _ _ _)
      | (with_reducible exact mandrellaw20_sure.mono _)
      | (with_reducible exact moves_Do.mono _ _ _)
      | (with_reducible exact LeO.refl _)
      | (with_reducible exact LeO.none _)
      | (with_reducible refine LeO.ite ?_ ?_)
      | (with_reducible refine LeO.bind ?_ (fun _ => ?_))
      | exact ih0 _ _ _ _
      | exact ih1 _ _ _ _
      | exact ih2 _ _ _ _ _
      | exact ih3 _ _ _ _ _
      | exact ih4 _ _ _ _
      | exact mandrellaw20_sure.mono _
      | exact moves_Do.mono _ _ _
      | exact LeO.none _
      | refine LeO.ite ?_ ?_
      | refine LeO.bind ?_ (fun _ => ?_)
    · intro y0 y1 y2 y3 y4
      unfold mandrellaw20_MovesTurns.l1
      repeat' first
      | (with_reducible exact ih0 _ _ _ _)
      | (with_reducible exact ih1 _ _ _ _)
      | (with_reducible exact ih2 _ _ _ _ _)
      | (with_reducible exact ih3 _ _ _ _ _)
      | (with_reducible exact ih4 _ _ _ _)
      | (with_reducible exact mandrellaw20_sure.mono _)
      | (with_reducible exact moves_Do.mono _ _ _)
      | (with_reducible exact LeO.refl _)
      | (with_reducible exact LeO.none _)
      | (with_reducible refine LeO.ite ?_ ?_)
      | (with_reducible refine LeO.bind ?_ (fun _ => ?_))
      | exact ih0 _ _ _ _
      | exact ih1 _ _ _ _
      | exact ih2 _ _ _ _ _
      | exact ih3 _ _ _ _ _
      | exact ih4 _ _ _ _
      | exact mandrellaw20_sure.mono _
      | exact moves_Do.mono _ _ _
      | exact LeO.none _
      | refine LeO.ite ?_ ?_
      | refine LeO.bind ?_ (fun _ => ?_)
    · intro y0 y1 y2 y3 y4
      unfold mandrellaw20_MovesTurns.l2
      repeat' first
      | (with_reducible exact ih0 _ _ _ _)
      | (with_reducible exact ih1 _ _ _ _)
      | (with_reducible exact ih2 _ _ _ _ _)
      | (with_reducible exact ih3 _ _ _ _ _)
      | (with_reducible exact ih4 _ _ _ _)
      | (with_reducible exact mandrellaw20_sure.mono _)
      | (with_reducible exact moves_Do.mono _ _ _)
      | (with_reducible exact LeO.refl _)
      | (with_reducible exact LeO.none _)
      | (with_reducible refine LeO.ite ?_ ?_)
      | (with_reducible refine LeO.bind ?_ (fun _ => ?_))
      | exact ih0 _ _ _ _
      | exact ih1 _ _ _ _
      | exact ih2 _ _ _ _ _
      | exact ih3 _ _ _ _ _
      | exact ih4 _ _ _ _
      | exact mandrellaw20_sure.mono _
      | exact moves_Do.mono _ _ _
      | exact LeO.none _
      | refine LeO.ite ?_ ?_
      | refine LeO.bind ?_ (fun _ => ?_)
    · intro y0 y1 y2 y3
      unfold mandrellaw20_MovesTurns.l3
      repeat' first
      | (with_reducible exact ih0 _ _ _ _)
      | (with_reducible exact ih1 _ _ _ _)
      | (with_reducible exact ih2 _ _ _ _ _)
      | (with_reducible exact ih3 _ _ _ _ _)
      | (with_reducible exact ih4 _ _ _ _)
      | (with_reducible exact mandrellaw20_sure.mono _)
      | (with_reducible exact moves_Do.mono _ _ _)
      | (with_reducible exact LeO.refl _)
      | (with_reducible exact LeO.none _)
      | (with_reducible refine LeO.ite ?_ ?_)
      | (with_reducible refine LeO.bind ?_ (fun _ => ?_))
      | exact ih0 _ _ _ _
      | exact ih1 _ _ _ _
      | exact ih2 _ _ _ _ _
      | exact ih3 _ _ _ _ _
      | exact ih4 _ _ _ _
      | exact mandrellaw20_sure.mono _
      | exact moves_Do.mono _ _ _
      | exact LeO.none _
      | refine LeO.ite ?_ ?_
      | refine LeO.bind ?_ (fun _ => ?_)
theorem mandrellaw20_MovesTurns.mono : ∀ a0 a1 k, LeO (mandrellaw20_MovesTurns.f k a0 a1) (mandrellaw20_MovesTurns.f (k + 1) a0 a1) := by
  intro a0 a1 k
  obtain ⟨ih0, ih1, ih2, ih3, ih4⟩ := mandrellaw20_MovesTurns.mono_l k
  unfold mandrellaw20_MovesTurns.f
  repeat' first
      | (with_reducible exact ih0 _ _ _ _)
      | (with_reducible exact ih1 _ _ _ _)
      | (with_reducible exact ih2 _ _ _ _ _)
      | (with_reducible exact ih3 _ _ _ _ _)
      | (with_reducible exact ih4 _ _ _ _)
      | (with_reducible exact mandrellaw20_sure.mono _)
      | (with_reducible exact moves_Do.mono _ _ _)
      | (with_reducible exact LeO.refl _)
      | (with_reducible exact LeO.none _)
      | (with_reducible refine LeO.ite ?_ ?_)
      | (with_reducible refine LeO.bind ?_ (fun _ => ?_))
      | exact ih0 _ _ _ _
      | exact ih1 _ _ _ _
      | exact ih2 _ _ _ _ _
      | exact ih3 _ _ _ _ _
      | exact ih4 _ _ _ _
      | exact mandrellaw20_sure.mono _
      | exact moves_Do.mono _ _ _
      | exact LeO.none _
      | refine LeO.ite ?_ ?_
      | refine LeO.bind ?_ (fun _ => ?_)
set_option maxHeartbeats 8000000 in
set_option maxRecDepth 100000 in
theorem mandrellaw20_MovesTurns.calls (k : Nat) (a0 : Int) (a1 : Int) (r : Bool) (w : World) (h : mandrellaw20_MovesTurns.f k a0 a1 = some r) :
    Calls Try.prog 3 #[.int .i64 a0, .int .i64 a1] w fun e w' => e = .returned (.bool r) ∧ Below w.heap.size w w' := by
  have hu25 := Try.underlying25
  have hu28 := Try.underlying28
  have hu48 := Try.underlying48
  have HB := Aside0.mk (Below.refl w.heap.size w)
  have H : (mandrellaw20_MovesTurns.l0 k (wrap64 (2 + (wrap64 (Int.tmod (IntKind.u64.wrap (a0)) 30)))) (wrap64 (Int.tmod (IntKind.u64.wrap (a1)) 100)) ([] : List (S25)) 0) = some r := h
  clear h
  have H' := Aside0.mk H
  clear H
  go_enter Try.func3, Try.ntmps3
  go_wp2
  go_loopg [7, 8] k (fun kq v7 v8 w' => ∃ (x7_1 : List (S25)) (x8_1 : Int), v8 = .int .i64 x8_1 ∧ Aside0 (mandrellaw20_MovesTurns.l0 kq (wrap64 (2 + (wrap64 (Int.tmod (IntKind.u64.wrap (a0)) 30)))) (wrap64 (Int.tmod (IntKind.u64.wrap (a1)) 100)) x7_1 x8_1 = some r) ∧ Aside0 (kq ≤ k) ∧ Aside0 (Kd.R k25 25 w' w.heap.size (fun _ => True) v7 x7_1) ∧ Aside0 (Below w.heap.size w w'))
  case atStart => exact ⟨(([] : List (S25))), (0), (by first | rfl | (simp; done) | (simp [*]; done)), H', ⟨Nat.le_refl _⟩, ⟨by first | exact Kd.R_nil _ _ _ _ _ | exact Kd.N_nil _ _ _ _ _ | exact Kd.V_nil _ _ _ _ _ | exact Kd.Q_nil _ _ _ _ _ | exact Kd.S_nil _ _ _ _ _⟩, ⟨by repeat (first | (with_reducible first | exact HB.out | apply below_alloc | apply pw_below_drewN | apply below_drew1) | exact HB.out)⟩⟩
  case round =>
    clear H'
    try clear p2
    obtain ⟨x7_1, x8_1, rfl, HA, HK1, HO_7, HB⟩ := hrel
    cases gk with
    | zero => exact absurd HA.out (by simp [mandrellaw20_MovesTurns.l0])
    | succ k1 =>
      have H := HA.out
      clear HA
      simp only [mandrellaw20_MovesTurns.l0] at H
      by_cases c3 : x8_1 < (wrap64 (2 + (wrap64 (Int.tmod (IntKind.u64.wrap (a0)) 30))))
      · rw [if_pos c3] at H
        have c3b0 : decide (x8_1 < (wrap64 (2 + (wrap64 (Int.tmod (IntKind.u64.wrap (a0)) 30))))) = true := decide_eq_true c3
        clear c3
        by_cases c4 : (wrap64 (2 + (wrap64 (Int.tmod (IntKind.u64.wrap (a0)) 30)))) = 0
        · rw [if_pos c4] at H
          exact absurd H (by simp)
        · rw [if_neg c4] at H
          have c4b0 : ((wrap64 (2 + (wrap64 (Int.tmod (IntKind.u64.wrap (a0)) 30)))) == 0) = false := beq_eq_false_iff_ne.mpr c4
          have c4b1 : ((wrap64 (2 + (wrap64 (Int.tmod (IntKind.u64.wrap (a0)) 30)))) != 0) = true := bne_iff_ne.mpr c4
          by_cases c5 : x7_1.length < 8796093022208
          · rw [if_pos c5] at H
            have LMc5 := Aside0.mk c5
            clear c5
            obtain ⟨y130, hy130⟩ : ∃ y_ : List (S25), y_ = (x7_1 ++ [(⟨wrap64 ((wrap64 (Int.tmod (IntKind.u64.wrap (a1)) 100)) + (Int.tmod (wrap64 (x8_1 + 1)) (wrap64 (2 + (wrap64 (Int.tmod (IntKind.u64.wrap (a0)) 30)))))), wrap64 ((wrap64 (Int.tmod (IntKind.u64.wrap (a1)) 100)) + x8_1)⟩ : S25)]) := ⟨_, rfl⟩
            replace H : (mandrellaw20_MovesTurns.l0 k1 (wrap64 (2 + (wrap64 (Int.tmod (IntKind.u64.wrap (a0)) 30)))) (wrap64 (Int.tmod (IntKind.u64.wrap (a1)) 100)) y130 (wrap64 (x8_1 + 1))) = some r := by first | (rw [hy130]; with_reducible exact H) | (have H2_ := (Option.bind_some _ _).symm.trans H; rw [hy130]; with_reducible exact H2_) | (have H2_ := (Option.bind_some _ _).symm.trans H; with_reducible exact H2_) | with_reducible exact H | (rw [hy130]; exact H) | exact H
            have Ny130 := Aside0.mk hy130
            clear hy130
            have H' := Aside0.mk H
            clear H
            go_wp2_with (first | ((with_reducible refine gate_builtin (b := .append) (xs := #[.tmp 31, .tmp 42]) rfl ?_); (try (refine gate_guard (by rfl) ?_; dsimp only)); at_builtin; refine Kd.R_append k25 (w0 := w) w.heap.size rfl (.tmp 31) (.tmp 42) 23 25 (.agg #[(.int .i64 0), (.int .i64 0)]) 16 rfl Try.underlying23 info25 rfl (by decide) (by omega) u7 x7_1 (⟨wrap64 ((wrap64 (Int.tmod (IntKind.u64.wrap (a1)) 100)) + (Int.tmod (wrap64 (x8_1 + 1)) (wrap64 (2 + (wrap64 (Int.tmod (IntKind.u64.wrap (a0)) 30)))))), wrap64 ((wrap64 (Int.tmod (IntKind.u64.wrap (a1)) 100)) + x8_1)⟩ : S25) [.int .i64 (wrap64 ((wrap64 (Int.tmod (IntKind.u64.wrap (a1)) 100)) + (Int.tmod (wrap64 (x8_1 + 1)) (wrap64 (2 + (wrap64 (Int.tmod (IntKind.u64.wrap (a0)) 30))))))), .int .i64 (wrap64 ((wrap64 (Int.tmod (IntKind.u64.wrap (a1)) 100)) + x8_1))] (fun _ => True) (fun _ => False) rfl rfl ?aP (fun _ hk => hk.elim) ?aF ?aO ?aB ?aS ?aL ?_; (case aP => exact k25_mkM _ _ _ (⟨wrap64 ((wrap64 (Int.tmod (IntKind.u64.wrap (a1)) 100)) + (Int.tmod (wrap64 (x8_1 + 1)) (wrap64 (2 + (wrap64 (Int.tmod (IntKind.u64.wrap (a0)) 30)))))), wrap64 ((wrap64 (Int.tmod (IntKind.u64.wrap (a1)) 100)) + x8_1)⟩ : S25)); (case aB => exact (by repeat (first | (with_reducible first | exact HB.out | apply below_alloc | apply pw_below_drewN | apply below_drew1) | exact HB.out))); (case aF => exact (fun _ _ => trivial)); (case aO => exact (by (with_reducible repeat (first | apply Kd.R_alloc | apply Kd.R_drewN | apply Kd.R_drew)); exact HO_7.out)); (case aS => exact (below_size (by repeat (first | (with_reducible first | exact HB.out | apply below_alloc | apply pw_below_drewN | apply below_drew1) | exact HB.out)))); (case aL => have := LMc5.out; omega); intro v131 w6 ho hb hg hat; rw [← Ny130.out] at ho; have n0_ := Aside0.mk (hb); have n1_ := Aside0.mk (ho); clear HB; clear HO_7; have HB := n0_; have HO132 := n1_; clear n0_ n1_; clear ho hb hg hat))
            go_roundg k1
            case measure => have := HK1.out; omega
            case rel => exact ⟨(y130), (wrap64 (x8_1 + 1)), (by first | rfl | (simp; done) | (simp [*]; done)), H', ⟨by have := HK1.out; omega⟩, ⟨by (with_reducible repeat (first | apply Kd.R_alloc | apply Kd.R_drewN | apply Kd.R_drew)); exact HO132.out⟩, ⟨by repeat (first | (with_reducible first | exact HB.out | apply below_alloc | apply pw_below_drewN | apply below_drew1) | exact HB.out)⟩⟩
          · rw [if_neg c5] at H
            exact absurd H (by simp)
      · rw [if_neg c3] at H
        have c3b0 : decide (x8_1 < (wrap64 (2 + (wrap64 (Int.tmod (IntKind.u64.wrap (a0)) 30))))) = false := decide_eq_false c3
        clear c3
        replace H := Option.bind_eq_some_iff.mp H
        obtain ⟨⟨t133, t134⟩, A70, H⟩ := H
        replace H : ((moves_Plan.f x7_1 500).bind fun bt137 => (if t134.isNone = true then (if bt137.2.isNone = true then (if (t133.length : Int) = 1 then (if 0 < (t133.length : Int) then (if ((rd_L3 t133 0).length : Int) = (wrap64 (2 + (wrap64 (Int.tmod (IntKind.u64.wrap (a0)) 30)))) then (mandrellaw20_MovesTurns.j1 k1 (wrap64 (2 + (wrap64 (Int.tmod (IntKind.u64.wrap (a0)) 30)))) (wrap64 (Int.tmod (IntKind.u64.wrap (a1)) 100)) bt137.1 ((bt137.1.length : Int) != (wrap64 ((wrap64 (2 + (wrap64 (Int.tmod (IntKind.u64.wrap (a0)) 30)))) + 1)))) else (mandrellaw20_MovesTurns.j1 k1 (wrap64 (2 + (wrap64 (Int.tmod (IntKind.u64.wrap (a0)) 30)))) (wrap64 (Int.tmod (IntKind.u64.wrap (a1)) 100)) bt137.1 true)) else (none)) else (mandrellaw20_MovesTurns.j1 k1 (wrap64 (2 + (wrap64 (Int.tmod (IntKind.u64.wrap (a0)) 30)))) (wrap64 (Int.tmod (IntKind.u64.wrap (a1)) 100)) bt137.1 true)) else (mandrellaw20_MovesTurns.j1 k1 (wrap64 (2 + (wrap64 (Int.tmod (IntKind.u64.wrap (a0)) 30)))) (wrap64 (Int.tmod (IntKind.u64.wrap (a1)) 100)) bt137.1 true)) else (mandrellaw20_MovesTurns.j1 k1 (wrap64 (2 + (wrap64 (Int.tmod (IntKind.u64.wrap (a0)) 30)))) (wrap64 (Int.tmod (IntKind.u64.wrap (a1)) 100)) bt137.1 true))) = some r := H
        have A7 := Aside0.mk A70
        clear A70
        replace H := Option.bind_eq_some_iff.mp H
        obtain ⟨⟨t137, t138⟩, A80, H⟩ := H
        replace H : (if t134.isNone = true then (if t138.isNone = true then (if (t133.length : Int) = 1 then (if 0 < (t133.length : Int) then (if ((rd_L3 t133 0).length : Int) = (wrap64 (2 + (wrap64 (Int.tmod (IntKind.u64.wrap (a0)) 30)))) then (mandrellaw20_MovesTurns.j1 k1 (wrap64 (2 + (wrap64 (Int.tmod (IntKind.u64.wrap (a0)) 30)))) (wrap64 (Int.tmod (IntKind.u64.wrap (a1)) 100)) t137 ((t137.length : Int) != (wrap64 ((wrap64 (2 + (wrap64 (Int.tmod (IntKind.u64.wrap (a0)) 30)))) + 1)))) else (mandrellaw20_MovesTurns.j1 k1 (wrap64 (2 + (wrap64 (Int.tmod (IntKind.u64.wrap (a0)) 30)))) (wrap64 (Int.tmod (IntKind.u64.wrap (a1)) 100)) t137 true)) else (none)) else (mandrellaw20_MovesTurns.j1 k1 (wrap64 (2 + (wrap64 (Int.tmod (IntKind.u64.wrap (a0)) 30)))) (wrap64 (Int.tmod (IntKind.u64.wrap (a1)) 100)) t137 true)) else (mandrellaw20_MovesTurns.j1 k1 (wrap64 (2 + (wrap64 (Int.tmod (IntKind.u64.wrap (a0)) 30)))) (wrap64 (Int.tmod (IntKind.u64.wrap (a1)) 100)) t137 true)) else (mandrellaw20_MovesTurns.j1 k1 (wrap64 (2 + (wrap64 (Int.tmod (IntKind.u64.wrap (a0)) 30)))) (wrap64 (Int.tmod (IntKind.u64.wrap (a1)) 100)) t137 true)) = some r := H
        have A8 := Aside0.mk A80
        clear A80
        have HC9 := Aside0.mk H
        clear H
        obtain ⟨Ao10, co10, eo10⟩ := Kd.R_slice HO_7.out
        subst eo10
        go_upto_region 9 with (first | ((with_reducible refine gate_callee (f := 4) rfl ?_); refine goesL_ (some 46) rfl rfl Try.func4 (by kernel_rfl) rfl #[.slice Ao10 x7_1.length co10] rfl (by (try simp only [List.map_toArray, List.map_cons, List.map_nil]); first | done | rfl | (simp only [List.length_drop, List.length_take]; rfl)) ?_; (with_reducible refine (moves_Rings.calls _ _ x7_1 t133 t134 _ ?side1 ?side2 A7.out).mono ?_); (case side1 => repeat (first | exact (Kd.R_reads' HO_7.out).2.2 | (with_reducible refine Kd.C_alloc ?_ _) | (with_reducible refine Kd.C_drewN ?_ _) | (with_reducible refine Kd.C_drew ?_))); (case side2 => exact (Kd.R_reads' HO_7.out).2.1); rintro e w11 ⟨v135, rfl, ho0, hb⟩; refine ⟨_, rfl, ?_⟩; have n0_ := Aside0.mk (Kd.R_below (by (with_reducible repeat (first | apply Kd.R_alloc | apply Kd.R_drewN | apply Kd.R_drew)); exact HO_7.out) hb); have n1_ := Aside0.mk (Kd.S_lower ho0 (below_size (by repeat (first | (with_reducible first | exact HB.out | apply below_alloc | apply pw_below_drewN | apply below_drew1) | exact HB.out)))); have n2_ := Aside0.mk (below_step (by repeat (first | (with_reducible first | exact HB.out | apply below_alloc | apply pw_below_drewN | apply below_drew1) | exact HB.out)) hb); clear HO_7; clear HB; have HO_7 := n0_; have HO136 := n1_; have HB := n2_; clear n0_ n1_ n2_; (try clear hb); (try clear hb2); (try clear hk); (try clear hi); (try clear ho0); (try simp only [errW_none, errW_some])) | ((with_reducible refine gate_callee (f := 5) rfl ?_); refine goesL_ (some 51) rfl rfl Try.func5 (by kernel_rfl) rfl #[.slice Ao10 x7_1.length co10, .int .i64 500] rfl (by (try simp only [List.map_toArray, List.map_cons, List.map_nil]); first | done | rfl | (simp only [List.length_drop, List.length_take]; rfl)) ?_; (with_reducible refine (moves_Plan.calls _ _ x7_1 500 t137 t138 _ ?side1 ?side2 A8.out).mono ?_); (case side1 => repeat (first | exact (Kd.R_reads' HO_7.out).2.2 | (with_reducible refine Kd.C_alloc ?_ _) | (with_reducible refine Kd.C_drewN ?_ _) | (with_reducible refine Kd.C_drew ?_))); (case side2 => exact (Kd.R_reads' HO_7.out).2.1); rintro e w12 ⟨v139, rfl, ho0, hb⟩; refine ⟨_, rfl, ?_⟩; have n0_ := Aside0.mk (Kd.R_elder' (by (with_reducible repeat (first | apply Kd.R_alloc | apply Kd.R_drewN | apply Kd.R_drew)); exact HO_7.out) (Kd.R_base ho0) hb); have n1_ := Aside0.mk (Kd.S_below (by (with_reducible repeat (first | apply Kd.S_alloc | apply Kd.S_drewN | apply Kd.S_drew)); exact HO136.out) hb); have n2_ := Aside0.mk (Kd.R_lower (Kd.R_new' ho0 (Kd.R_lt (by (with_reducible repeat (first | apply Kd.R_alloc | apply Kd.R_drewN | apply Kd.R_drew)); exact HO_7.out))) (below_size (by repeat (first | (with_reducible first | exact HB.out | apply below_alloc | apply pw_below_drewN | apply below_drew1) | exact HB.out)))); have n3_ := Aside0.mk (below_step (by repeat (first | (with_reducible first | exact HB.out | apply below_alloc | apply pw_below_drewN | apply below_drew1) | exact HB.out)) hb); clear HO_7; clear HO136; clear HB; have HO_7 := n0_; have HO136 := n1_; have HO140 := n2_; have HB := n3_; clear n0_ n1_ n2_ n3_; (try clear hb); (try clear hb2); (try clear hk); (try clear hi); (try clear ho0); (try simp only [errW_none, errW_some])))
        (try simp only [Act.put, List.setIfInBounds_toArray, List.set_cons_zero, List.set_cons_succ])
        go_cut [79] (fun v79 wc => ∃ (kq : Nat) (x79_8 : Bool), v79 = .bool x79_8 ∧ Aside0 (mandrellaw20_MovesTurns.j1 kq (wrap64 (2 + (wrap64 (Int.tmod (IntKind.u64.wrap (a0)) 30)))) (wrap64 (Int.tmod (IntKind.u64.wrap (a1)) 100)) t137 x79_8 = some r) ∧ Aside0 (kq ≤ k1) ∧ Aside0 (Kd.R k25 25 wc w.heap.size (fun _ => True) v139 t137) ∧ Aside0 (Below w.heap.size w wc))
        case first =>
          have H := HC9.out
          clear HC9
          rcases t134 with _ | q141
          · have H1 : (if t138.isNone = true then (if (t133.length : Int) = 1 then (if 0 < (t133.length : Int) then (if ((rd_L3 t133 0).length : Int) = (wrap64 (2 + (wrap64 (Int.tmod (IntKind.u64.wrap (a0)) 30)))) then (mandrellaw20_MovesTurns.j1 k1 (wrap64 (2 + (wrap64 (Int.tmod (IntKind.u64.wrap (a0)) 30)))) (wrap64 (Int.tmod (IntKind.u64.wrap (a1)) 100)) t137 ((t137.length : Int) != (wrap64 ((wrap64 (2 + (wrap64 (Int.tmod (IntKind.u64.wrap (a0)) 30)))) + 1)))) else (mandrellaw20_MovesTurns.j1 k1 (wrap64 (2 + (wrap64 (Int.tmod (IntKind.u64.wrap (a0)) 30)))) (wrap64 (Int.tmod (IntKind.u64.wrap (a1)) 100)) t137 true)) else (none)) else (mandrellaw20_MovesTurns.j1 k1 (wrap64 (2 + (wrap64 (Int.tmod (IntKind.u64.wrap (a0)) 30)))) (wrap64 (Int.tmod (IntKind.u64.wrap (a1)) 100)) t137 true)) else (mandrellaw20_MovesTurns.j1 k1 (wrap64 (2 + (wrap64 (Int.tmod (IntKind.u64.wrap (a0)) 30)))) (wrap64 (Int.tmod (IntKind.u64.wrap (a1)) 100)) t137 true)) = some r := by rw [if_pos (show (none : Option Int).isNone = true by rfl)] at H; exact H
            clear H
            have H := H1
            clear H1
            try simp only [errW_none, errW_some]
            rcases t138 with _ | q142
            · have H1 : (if (t133.length : Int) = 1 then (if 0 < (t133.length : Int) then (if ((rd_L3 t133 0).length : Int) = (wrap64 (2 + (wrap64 (Int.tmod (IntKind.u64.wrap (a0)) 30)))) then (mandrellaw20_MovesTurns.j1 k1 (wrap64 (2 + (wrap64 (Int.tmod (IntKind.u64.wrap (a0)) 30)))) (wrap64 (Int.tmod (IntKind.u64.wrap (a1)) 100)) t137 ((t137.length : Int) != (wrap64 ((wrap64 (2 + (wrap64 (Int.tmod (IntKind.u64.wrap (a0)) 30)))) + 1)))) else (mandrellaw20_MovesTurns.j1 k1 (wrap64 (2 + (wrap64 (Int.tmod (IntKind.u64.wrap (a0)) 30)))) (wrap64 (Int.tmod (IntKind.u64.wrap (a1)) 100)) t137 true)) else (none)) else (mandrellaw20_MovesTurns.j1 k1 (wrap64 (2 + (wrap64 (Int.tmod (IntKind.u64.wrap (a0)) 30)))) (wrap64 (Int.tmod (IntKind.u64.wrap (a1)) 100)) t137 true)) = some r := by rw [if_pos (show (none : Option Int).isNone = true by rfl)] at H; exact H
              clear H
              have H := H1
              clear H1
              try simp only [errW_none, errW_some]
              by_cases c13 : (t133.length : Int) = 1
              · rw [if_pos c13] at H
                have c13b0 : ((t133.length : Int) == 1) = true := beq_iff_eq.mpr c13
                have c13b1 : ((t133.length : Int) != 1) = false := bne_eq_false_iff_eq.mpr c13
                clear c13
                (first | rw [c13b0] | (simp only [i64_w, i32_w]; rw [c13b0]) | skip)
                by_cases c14 : 0 < (t133.length : Int)
                · rw [if_pos c14] at H
                  have c14b0 : decide (0 < (t133.length : Int)) = true := decide_eq_true c14
                  have c14b1 : decide (0 < t133.length) = true := decide_eq_true (by omega)
                  clear c14
                  by_cases c15 : ((rd_L3 t133 0).length : Int) = (wrap64 (2 + (wrap64 (Int.tmod (IntKind.u64.wrap (a0)) 30))))
                  · rw [if_pos c15] at H
                    have c15b0 : (((rd_L3 t133 0).length : Int) == (wrap64 (2 + (wrap64 (Int.tmod (IntKind.u64.wrap (a0)) 30))))) = true := beq_iff_eq.mpr c15
                    have c15b1 : (((rd_L3 t133 0).length : Int) != (wrap64 (2 + (wrap64 (Int.tmod (IntKind.u64.wrap (a0)) 30))))) = false := bne_eq_false_iff_eq.mpr c15
                    clear c15
                    have H' := Aside0.mk H
                    clear H
                    obtain ⟨Ao16, co16, eo16⟩ := Kd.S_slice HO136.out
                    subst eo16
                    have p143 : 0 ≤ (0 : Int) := (by omega)
                    have q143 : 0 < (t133.length : Int) := of_decide_eq_true (by first | (with_reducible assumption) | assumption)
                    obtain ⟨ad143, A143_0, c143_0, e143, hx143_0, hl143_0, hi143_0⟩ := at_L3 (Kd.S_reads' HO136.out).2.2 0 p143 q143
                    cases e143
                    obtain ⟨ce143, hce143, hMe143, hcc143⟩ := Kd.S_get HO136.out [] 0 p143 (by first | exact q143 | exact of_decide_eq_true (by first | (with_reducible assumption) | assumption) | (have e_ := (Kd.S_reads' HO136.out).1; omega))
                    obtain ⟨ve143_0, rfl, ge143_0⟩ := hMe143
                    have hv143_0 := hcc143 0 _ rfl
                    rw [Nat.add_zero, show ((Kd.slice 3 (Kd.int .i64))).sz = 1 from rfl, Nat.mul_one] at hv143_0
                    replace hv143_0 := Option.some.inj (hv143_0.symm.trans hx143_0)
                    rw [hv143_0] at ge143_0
                    have HL143_0 := Aside0.mk (show Kd.R (Kd.int .i64) 3 _ _ _ _ (rd_L3 t133 0) from ge143_0)
                    clear hv143_0 ge143_0
                    clear hcc143 hce143
                    have qi143 : (0 < t133.length) = True := eq_true (by omega)
                    (try rw [show ((0 : Int)).toNat = 0 from rfl] at hx143_0)
                    (try rw [Addr.add_zero'] at hx143_0)
                    have HR143_0 := Aside0.mk hi143_0
                    have HC143_0 := Aside0.mk hl143_0
                    clear hi143_0 hl143_0
                    replace p143 := eq_true p143
                    replace q143 := eq_true q143
                    obtain ⟨Ao17, co17, eo17⟩ := Kd.R_slice HO140.out
                    subst eo17
                    go_wp2
                    go_meet
                    case rel => exact ⟨_, (((t137.length : Int) != (wrap64 ((wrap64 (2 + (wrap64 (Int.tmod (IntKind.u64.wrap (a0)) 30)))) + 1)))), (by first | rfl | (simp; done) | (simp [*]; done)), H', ⟨by have := HK1.out; first | omega | exact Nat.le_refl _⟩, ⟨by (with_reducible repeat (first | apply Kd.R_alloc | apply Kd.R_drewN | apply Kd.R_drew)); exact Kd.R_mono HO140.out (fun _ hk => trivial)⟩, ⟨by repeat (first | (with_reducible first | exact HB.out | apply below_alloc | apply pw_below_drewN | apply below_drew1) | exact HB.out)⟩⟩
                  · rw [if_neg c15] at H
                    have c15b0 : (((rd_L3 t133 0).length : Int) == (wrap64 (2 + (wrap64 (Int.tmod (IntKind.u64.wrap (a0)) 30))))) = false := beq_eq_false_iff_ne.mpr c15
                    have c15b1 : (((rd_L3 t133 0).length : Int) != (wrap64 (2 + (wrap64 (Int.tmod (IntKind.u64.wrap (a0)) 30))))) = true := bne_iff_ne.mpr c15
                    have H' := Aside0.mk H
                    clear H
                    obtain ⟨Ao18, co18, eo18⟩ := Kd.S_slice HO136.out
                    subst eo18
                    have p143 : 0 ≤ (0 : Int) := (by omega)
                    have q143 : 0 < (t133.length : Int) := of_decide_eq_true (by first | (with_reducible assumption) | assumption)
                    obtain ⟨ad143, A143_0, c143_0, e143, hx143_0, hl143_0, hi143_0⟩ := at_L3 (Kd.S_reads' HO136.out).2.2 0 p143 q143
                    cases e143
                    obtain ⟨ce143, hce143, hMe143, hcc143⟩ := Kd.S_get HO136.out [] 0 p143 (by first | exact q143 | exact of_decide_eq_true (by first | (with_reducible assumption) | assumption) | (have e_ := (Kd.S_reads' HO136.out).1; omega))
                    obtain ⟨ve143_0, rfl, ge143_0⟩ := hMe143
                    have hv143_0 := hcc143 0 _ rfl
                    rw [Nat.add_zero, show ((Kd.slice 3 (Kd.int .i64))).sz = 1 from rfl, Nat.mul_one] at hv143_0
                    replace hv143_0 := Option.some.inj (hv143_0.symm.trans hx143_0)
                    rw [hv143_0] at ge143_0
                    have HL143_0 := Aside0.mk (show Kd.R (Kd.int .i64) 3 _ _ _ _ (rd_L3 t133 0) from ge143_0)
                    clear hv143_0 ge143_0
                    clear hcc143 hce143
                    have qi143 : (0 < t133.length) = True := eq_true (by omega)
                    (try rw [show ((0 : Int)).toNat = 0 from rfl] at hx143_0)
                    (try rw [Addr.add_zero'] at hx143_0)
                    have HR143_0 := Aside0.mk hi143_0
                    have HC143_0 := Aside0.mk hl143_0
                    clear hi143_0 hl143_0
                    replace p143 := eq_true p143
                    replace q143 := eq_true q143
                    go_wp2
                    go_meet
                    case rel => exact ⟨_, (true), (by first | rfl | (simp; done) | (simp [*]; done)), H', ⟨by have := HK1.out; first | omega | exact Nat.le_refl _⟩, ⟨by (with_reducible repeat (first | apply Kd.R_alloc | apply Kd.R_drewN | apply Kd.R_drew)); exact Kd.R_mono HO140.out (fun _ hk => trivial)⟩, ⟨by repeat (first | (with_reducible first | exact HB.out | apply below_alloc | apply pw_below_drewN | apply below_drew1) | exact HB.out)⟩⟩
                · rw [if_neg c14] at H
                  exact absurd H (by simp)
              · rw [if_neg c13] at H
                have c13b0 : ((t133.length : Int) == 1) = false := beq_eq_false_iff_ne.mpr c13
                have c13b1 : ((t133.length : Int) != 1) = true := bne_iff_ne.mpr c13
                (first | rw [c13b0] | (simp only [i64_w, i32_w]; rw [c13b0]) | skip)
                have H' := Aside0.mk H
                clear H
                obtain ⟨Ao19, co19, eo19⟩ := Kd.S_slice HO136.out
                subst eo19
                go_wp2
                go_meet
                case rel => exact ⟨_, (true), (by first | rfl | (simp; done) | (simp [*]; done)), H', ⟨by have := HK1.out; first | omega | exact Nat.le_refl _⟩, ⟨by (with_reducible repeat (first | apply Kd.R_alloc | apply Kd.R_drewN | apply Kd.R_drew)); exact Kd.R_mono HO140.out (fun _ hk => trivial)⟩, ⟨by repeat (first | (with_reducible first | exact HB.out | apply below_alloc | apply pw_below_drewN | apply below_drew1) | exact HB.out)⟩⟩
            · have H1 : (mandrellaw20_MovesTurns.j1 k1 (wrap64 (2 + (wrap64 (Int.tmod (IntKind.u64.wrap (a0)) 30)))) (wrap64 (Int.tmod (IntKind.u64.wrap (a1)) 100)) t137 true) = some r := by rw [if_neg (show ¬ (some q142).isNone = true by simp)] at H; exact H
              clear H
              have H := H1
              clear H1
              try simp only [errW_none, errW_some]
              have H' := Aside0.mk H
              clear H
              go_wp2
              go_meet
              case rel => exact ⟨_, (true), (by first | rfl | (simp; done) | (simp [*]; done)), H', ⟨by have := HK1.out; first | omega | exact Nat.le_refl _⟩, ⟨by (with_reducible repeat (first | apply Kd.R_alloc | apply Kd.R_drewN | apply Kd.R_drew)); exact Kd.R_mono HO140.out (fun _ hk => trivial)⟩, ⟨by repeat (first | (with_reducible first | exact HB.out | apply below_alloc | apply pw_below_drewN | apply below_drew1) | exact HB.out)⟩⟩
          · have H1 : (mandrellaw20_MovesTurns.j1 k1 (wrap64 (2 + (wrap64 (Int.tmod (IntKind.u64.wrap (a0)) 30)))) (wrap64 (Int.tmod (IntKind.u64.wrap (a1)) 100)) t137 true) = some r := by rw [if_neg (show ¬ (some q141).isNone = true by simp)] at H; exact H
            clear H
            have H := H1
            clear H1
            try simp only [errW_none, errW_some]
            have H' := Aside0.mk H
            clear H
            go_wp2
            go_meet
            case rel => exact ⟨_, (true), (by first | rfl | (simp; done) | (simp [*]; done)), H', ⟨by have := HK1.out; first | omega | exact Nat.le_refl _⟩, ⟨by (with_reducible repeat (first | apply Kd.R_alloc | apply Kd.R_drewN | apply Kd.R_drew)); exact Kd.R_mono HO140.out (fun _ hk => trivial)⟩, ⟨by repeat (first | (with_reducible first | exact HB.out | apply below_alloc | apply pw_below_drewN | apply below_drew1) | exact HB.out)⟩⟩
        case rest =>
          clear HC9
          try clear c1
          try clear p1
          try clear q1
          try clear hx1
          try clear qi1
          try clear p2
          try clear c3
          try clear c3b0
          try clear c4
          try clear c4b0
          try clear c4b1
          try clear c5
          try clear p6
          try clear c13
          try clear c13b0
          try clear c13b1
          try clear c14
          try clear c14b0
          try clear c14b1
          try clear p14
          try clear q14
          try clear hx14
          try clear qi14
          try clear c15
          try clear c15b0
          try clear c15b1
          try clear hx143_0
          try clear p143
          try clear p2
          try clear q141
          try clear q142
          try clear q143
          obtain ⟨kq, x79_8, rfl, HA, HJ8, HO_11, HB⟩ := hcut
          cases kq with
          | zero => exact absurd HA.out (by simp [mandrellaw20_MovesTurns.j1])
          | succ kj8 =>
            have H := HA.out
            clear HA
            simp only [mandrellaw20_MovesTurns.j1] at H
            by_cases c20 : x79_8 = true
            · subst c20
              have H1 : (some false) = some r := by rw [if_pos rfl] at H; exact H
              clear H
              have H := H1
              clear H1
              obtain rfl := Option.some.inj H
              go_wp2
              go_ret
              exact ⟨by first | rfl | (simp [errW_none, errW_some] <;> rfl) | (simp [*, errW_none, errW_some] <;> rfl), by repeat (first | (with_reducible first | exact HB.out | apply below_alloc | apply pw_below_drewN | apply below_drew1) | exact HB.out)⟩
            · replace c20 := Bool.eq_false_iff.mpr c20
              subst c20
              have H1 : (if 501 ≤ 35184372088832 then (mandrellaw20_MovesTurns.l1 kj8 (wrap64 (2 + (wrap64 (Int.tmod (IntKind.u64.wrap (a0)) 30)))) (wrap64 (Int.tmod (IntKind.u64.wrap (a1)) 100)) t137 (List.replicate 501 0) 0) else (none)) = some r := by rw [if_neg (show ¬ (false = true) by decide)] at H; exact H
              clear H
              have H := H1
              clear H1
              by_cases c21 : 501 ≤ 35184372088832
              · rw [if_pos c21] at H
                have c21b0 := eq_true c21
                have c21b1 : decide (501 ≤ 35184372088832) = true := decide_eq_true c21
                clear c21
                obtain ⟨y144, hy144⟩ : ∃ y_ : List Int, y_ = (List.replicate 501 0) := ⟨_, rfl⟩
                replace H : (mandrellaw20_MovesTurns.l1 kj8 (wrap64 (2 + (wrap64 (Int.tmod (IntKind.u64.wrap (a0)) 30)))) (wrap64 (Int.tmod (IntKind.u64.wrap (a1)) 100)) t137 y144 0) = some r := by first | (rw [hy144]; with_reducible exact H) | (have H2_ := (Option.bind_some _ _).symm.trans H; rw [hy144]; with_reducible exact H2_) | (have H2_ := (Option.bind_some _ _).symm.trans H; with_reducible exact H2_) | with_reducible exact H | (rw [hy144]; exact H) | exact H
                have Ny144 := Aside0.mk hy144
                clear hy144
                have H' := Aside0.mk H
                clear H
                go_wp2_with (first | ((with_reducible refine gate_dst (N := 80) rfl ?_); (try (refine gate_guard (by rfl) ?_; dsimp only)); refine Kd.R_make (Kd.int .u64) _ 35 rfl (N := 80) rfl 34 _ _ rfl 501 rfl rfl Try.underlying34 (.int .u64 0) 8 info35 rfl (by decide) (by omega) 0 (ok := fun _ => True) (okp := fun _ => True) rfl (fun _ hk => hk) trivial (by omega) (by omega) (Below.refl _ _) (Nat.le_refl _) ?_; intro v145 w22 ho23 hb hg_ hnew_; clear hg_ hnew_; (first | rw [← Ny144.out] at ho23 | (simp only [Int.reduceToNat] at ho23; rw [← Ny144.out] at ho23)); have n0_ := Aside0.mk (Kd.R_below (by (with_reducible repeat (first | apply Kd.R_alloc | apply Kd.R_drewN | apply Kd.R_drew)); exact HO_11.out) hb); have n1_ := Aside0.mk (Kd.R_lower ho23 (below_size (by repeat (first | (with_reducible first | exact HB.out | apply below_alloc | apply pw_below_drewN | apply below_drew1) | exact HB.out)))); have n2_ := Aside0.mk (below_step (by repeat (first | (with_reducible first | exact HB.out | apply below_alloc | apply pw_below_drewN | apply below_drew1) | exact HB.out)) hb); clear HO_11; clear HB; have HO_11 := n0_; have HO146 := n1_; have HB := n2_; clear n0_ n1_ n2_; clear hb ho23))
                go_loopg [14] kj8 (fun kq v14 w' => ∃ (x13_3 : List Int) (x14_3 : Int), v14 = .int .i64 x14_3 ∧ Aside0 (mandrellaw20_MovesTurns.l1 kq (wrap64 (2 + (wrap64 (Int.tmod (IntKind.u64.wrap (a0)) 30)))) (wrap64 (Int.tmod (IntKind.u64.wrap (a1)) 100)) t137 x13_3 x14_3 = some r) ∧ Aside0 (kq ≤ kj8) ∧ Aside0 (Kd.R k25 25 w' w.heap.size (fun _ => True) v139 t137) ∧ Aside0 (Kd.R (Kd.int .u64) 35 w' w.heap.size (fun _ => True) v145 x13_3) ∧ Aside0 (Below w.heap.size w w'))
                case atStart => exact ⟨(y144), (0), (by first | rfl | (simp; done) | (simp [*]; done)), H', ⟨Nat.le_refl _⟩, ⟨by (with_reducible repeat (first | apply Kd.R_alloc | apply Kd.R_drewN | apply Kd.R_drew)); exact HO_11.out⟩, ⟨by (with_reducible repeat (first | apply Kd.R_alloc | apply Kd.R_drewN | apply Kd.R_drew)); exact HO146.out⟩, ⟨by repeat (first | (with_reducible first | exact HB.out | apply below_alloc | apply pw_below_drewN | apply below_drew1) | exact HB.out)⟩⟩
                case round =>
                  clear H'
                  try clear c1
                  try clear p1
                  try clear q1
                  try clear hx1
                  try clear qi1
                  try clear c2
                  try clear p2
                  try clear c3
                  try clear c3b0
                  try clear c4
                  try clear c4b0
                  try clear c4b1
                  try clear c5
                  try clear p6
                  try clear c13
                  try clear c13b0
                  try clear c13b1
                  try clear c14
                  try clear c14b0
                  try clear c14b1
                  try clear p14
                  try clear q14
                  try clear hx14
                  try clear qi14
                  try clear c15
                  try clear c15b0
                  try clear c15b1
                  try clear c20
                  try clear c21
                  try clear c21b0
                  try clear c21b1
                  try clear hx143_0
                  try clear p1
                  try clear p14
                  try clear p143
                  try clear p2
                  try clear p6
                  try clear q1
                  try clear q14
                  try clear q141
                  try clear q142
                  try clear q143
                  obtain ⟨x13_3, x14_3, rfl, HA, HK3, HO_11, HO_13, HB⟩ := hrel
                  cases gk with
                  | zero => exact absurd HA.out (by simp [mandrellaw20_MovesTurns.l1])
                  | succ k3 =>
                    have H := HA.out
                    clear HA
                    simp only [mandrellaw20_MovesTurns.l1] at H
                    by_cases c24 : x14_3 < (wrap64 (2 + (wrap64 (Int.tmod (IntKind.u64.wrap (a0)) 30))))
                    · rw [if_pos c24] at H
                      have c24b0 : decide (x14_3 < (wrap64 (2 + (wrap64 (Int.tmod (IntKind.u64.wrap (a0)) 30))))) = true := decide_eq_true c24
                      clear c24
                      obtain ⟨ji25, hji25⟩ : ∃ j_ : Int, (wrap64 ((wrap64 (Int.tmod (IntKind.u64.wrap (a1)) 100)) + x14_3)) = j_ := ⟨_, rfl⟩
                      replace H : (if 0 ≤ (ji25) then (if (ji25) < (x13_3.length : Int) then (mandrellaw20_MovesTurns.l1 k3 (wrap64 (2 + (wrap64 (Int.tmod (IntKind.u64.wrap (a0)) 30)))) (wrap64 (Int.tmod (IntKind.u64.wrap (a1)) 100)) t137 (x13_3.set ((ji25) : Int).toNat (IntKind.u64.wrap (wrap64 (x14_3 + 1)))) (wrap64 (x14_3 + 1))) else (none)) else (none)) = some r := by first | (rw [hji25] at H; exact H) | (simp only [hji25] at H ⊢; exact H)
                      have hji25w : (IntKind.i64.wrap ((wrap64 (Int.tmod (IntKind.u64.wrap (a1)) 100)) + x14_3)) = ji25 := (i64_w _).trans hji25
                      by_cases c26 : 0 ≤ (ji25)
                      · rw [if_pos c26] at H
                        have c26b0 : decide (0 ≤ (ji25)) = true := decide_eq_true c26
                        clear c26
                        by_cases c27 : (ji25) < (x13_3.length : Int)
                        · rw [if_pos c27] at H
                          have c27b0 : decide ((ji25) < (x13_3.length : Int)) = true := decide_eq_true c27
                          clear c27
                          obtain ⟨y147, hy147⟩ : ∃ y_ : List Int, y_ = (x13_3.set ((ji25) : Int).toNat (IntKind.u64.wrap (wrap64 (x14_3 + 1)))) := ⟨_, rfl⟩
                          replace H : (mandrellaw20_MovesTurns.l1 k3 (wrap64 (2 + (wrap64 (Int.tmod (IntKind.u64.wrap (a0)) 30)))) (wrap64 (Int.tmod (IntKind.u64.wrap (a1)) 100)) t137 y147 (wrap64 (x14_3 + 1))) = some r := by first | (rw [hy147]; with_reducible exact H) | (have H2_ := (Option.bind_some _ _).symm.trans H; rw [hy147]; with_reducible exact H2_) | (have H2_ := (Option.bind_some _ _).symm.trans H; with_reducible exact H2_) | with_reducible exact H | (rw [hy147]; exact H) | exact H
                          have Ny147 := Aside0.mk hy147
                          clear hy147
                          have H' := Aside0.mk H
                          clear H
                          have p28 : 0 ≤ ((ji25) : Int) := of_decide_eq_true (by first | (with_reducible assumption) | assumption)
                          have q28 : ((ji25) : Int) < ((x13_3.length : Int) : Int) := of_decide_eq_true (by first | (with_reducible assumption) | assumption)
                          obtain ⟨go28, co28, eo28, gb28, gl28, cl28, HG28⟩ := Kd.R_form HO_13.out (by omega)
                          (first | cases eo28 | (injection eo28 with ea_ en_ ec_; (first | subst ea_ | (injection ea_ with ea_; subst ea_)); subst ec_; clear en_))
                          have GB28 := Aside0.mk gb28
                          have GG28 := Aside0.mk HG28
                          clear gb28 gl28 HG28
                          obtain ⟨hx28_0, hf28_0⟩ := Kd.R_celln 0 HO_13.out ((ji25) : Int) p28 q28
                          replace p28 := eq_true p28
                          replace q28 := eq_true q28
                          have HP29 := Kd.R_putg HO_13.out ((ji25) : Int) (IntKind.u64.wrap (wrap64 (x14_3 + 1)))
                          go_wp2_with (first | ((with_reducible refine gate_store (t := 35) (p := 93) rfl ?_); refine store_event (t := 35) (p := 93) (v := ?vo_w30) (w1 := (wr.setCell ⟨go28, ((ji25) : Int).toNat, none⟩ (.int .u64 (IntKind.u64.wrap (wrap64 (x14_3 + 1)))))) ?hg ?ho ?hn ?hr ?_; (case ho => rfl); (case hg => rfl); (case hn => rfl); (case hr => first | (go_simp; done) | (go_simp; rfl)); intro w30 hw; have hg : wr.grownBy w30 (some go28) := (by rw [hw]; exact HP29.2); have hp_ : Kd.R (Kd.int .u64) 35 w30 w.heap.size (fun _ => True) (.slice (some ⟨go28, 0, none⟩) x13_3.length co28) y147 := (by rw [hw, Ny147.out]; exact HP29.1); clear HP29; have n0_ := Aside0.mk (Kd.R_over' (v := (.slice (some ⟨go28, 0, none⟩) x13_3.length co28)) (by (with_reducible repeat (first | apply Kd.R_alloc | apply Kd.R_drewN | apply Kd.R_drew)); exact HO_11.out) (Kd.R_typed HO_13.out) (by decide) hg); have n1_ := Aside0.mk (hp_); have n2_ := Aside0.mk ((by rw [hw]; exact below_set (HB.out) GB28.out : Below w.heap.size w w30)); clear HO_11; clear HO_13; clear HB; have HO_11 := n0_; have HO_13 := n1_; have HB := n2_; clear n0_ n1_ n2_; clear hg hw hp_))
                          go_roundg k3
                          case measure => have := HK1.out; have := HJ8.out; have := HK3.out; omega
                          case rel => exact ⟨(y147), (wrap64 (x14_3 + 1)), (by first | rfl | (simp; done) | (simp [*]; done)), H', ⟨by have := HK1.out; have := HJ8.out; have := HK3.out; omega⟩, ⟨by (with_reducible repeat (first | apply Kd.R_alloc | apply Kd.R_drewN | apply Kd.R_drew)); exact HO_11.out⟩, ⟨by (with_reducible repeat (first | apply Kd.R_alloc | apply Kd.R_drewN | apply Kd.R_drew)); exact HO_13.out⟩, ⟨by repeat (first | (with_reducible first | exact HB.out | apply below_alloc | apply pw_below_drewN | apply below_drew1) | exact HB.out)⟩⟩
                        · rw [if_neg c27] at H
                          exact absurd H (by simp)
                      · rw [if_neg c26] at H
                        exact absurd H (by simp)
                    · rw [if_neg c24] at H
                      have c24b0 : decide (x14_3 < (wrap64 (2 + (wrap64 (Int.tmod (IntKind.u64.wrap (a0)) 30))))) = false := decide_eq_false c24
                      clear c24
                      have H' := Aside0.mk H
                      clear H
                      go_wp2
                      go_loopg [15] k3 (fun kq v15 w' => ∃ (x13_4 : List Int) (x15_4 : Int), v15 = .int .i64 x15_4 ∧ Aside0 (mandrellaw20_MovesTurns.l2 kq (wrap64 (2 + (wrap64 (Int.tmod (IntKind.u64.wrap (a0)) 30)))) (wrap64 (Int.tmod (IntKind.u64.wrap (a1)) 100)) t137 x13_4 x15_4 = some r) ∧ Aside0 (kq ≤ k3) ∧ Aside0 (Kd.R k25 25 w' w.heap.size (fun _ => True) v139 t137) ∧ Aside0 (Kd.R (Kd.int .u64) 35 w' w.heap.size (fun _ => True) v145 x13_4) ∧ Aside0 (Below w.heap.size w w'))
                      case atStart => exact ⟨(x13_3), (0), (by first | rfl | (simp; done) | (simp [*]; done)), H', ⟨Nat.le_refl _⟩, ⟨by (with_reducible repeat (first | apply Kd.R_alloc | apply Kd.R_drewN | apply Kd.R_drew)); exact HO_11.out⟩, ⟨by (with_reducible repeat (first | apply Kd.R_alloc | apply Kd.R_drewN | apply Kd.R_drew)); exact HO_13.out⟩, ⟨by repeat (first | (with_reducible first | exact HB.out | apply below_alloc | apply pw_below_drewN | apply below_drew1) | exact HB.out)⟩⟩
                      case round =>
                        clear H'
                        try clear c1
                        try clear p1
                        try clear q1
                        try clear hx1
                        try clear qi1
                        try clear c2
                        try clear p2
                        try clear q2
                        try clear hx2
                        try clear hf2
                        try clear c3
                        try clear c3b0
                        try clear c4
                        try clear c4b0
                        try clear c4b1
                        try clear c5
                        try clear p6
                        try clear c13
                        try clear c13b0
                        try clear c13b1
                        try clear c14
                        try clear c14b0
                        try clear c14b1
                        try clear p14
                        try clear q14
                        try clear hx14
                        try clear qi14
                        try clear c15
                        try clear c15b0
                        try clear c15b1
                        try clear c20
                        try clear c21
                        try clear c21b0
                        try clear c21b1
                        try clear c24
                        try clear c24b0
                        try clear c26
                        try clear c26b0
                        try clear c27
                        try clear c27b0
                        try clear p28
                        try clear q28
                        try clear hx28
                        try clear hf28
                        try clear hx143_0
                        try clear hx28_0
                        try clear p1
                        try clear p14
                        try clear p143
                        try clear p2
                        try clear p28
                        try clear p6
                        try clear q1
                        try clear q14
                        try clear q141
                        try clear q142
                        try clear q143
                        try clear q28
                        obtain ⟨x13_4, x15_4, rfl, HA, HK4, HO_11, HO_13, HB⟩ := hrel
                        cases gk with
                        | zero => exact absurd HA.out (by simp [mandrellaw20_MovesTurns.l2])
                        | succ k4 =>
                          have H := HA.out
                          clear HA
                          simp only [mandrellaw20_MovesTurns.l2] at H
                          by_cases c31 : x15_4 < (wrap64 (2 + (wrap64 (Int.tmod (IntKind.u64.wrap (a0)) 30))))
                          · rw [if_pos c31] at H
                            have c31b0 : decide (x15_4 < (wrap64 (2 + (wrap64 (Int.tmod (IntKind.u64.wrap (a0)) 30))))) = true := decide_eq_true c31
                            clear c31
                            replace H := Option.bind_eq_some_iff.mp H
                            obtain ⟨⟨t148, t149⟩, A320, H⟩ := H
                            replace H : (if t148.isNone = true then (if (wrap64 (2 + (wrap64 (Int.tmod (IntKind.u64.wrap (a0)) 30)))) = 0 then (none) else (if 0 ≤ (wrap64 ((wrap64 (Int.tmod (IntKind.u64.wrap (a1)) 100)) + (Int.tmod (wrap64 (x15_4 + 1)) (wrap64 (2 + (wrap64 (Int.tmod (IntKind.u64.wrap (a0)) 30))))))) then (if (wrap64 ((wrap64 (Int.tmod (IntKind.u64.wrap (a1)) 100)) + (Int.tmod (wrap64 (x15_4 + 1)) (wrap64 (2 + (wrap64 (Int.tmod (IntKind.u64.wrap (a0)) 30))))))) < (x13_4.length : Int) then (if (rd t149 (wrap64 ((wrap64 (Int.tmod (IntKind.u64.wrap (a1)) 100)) + (Int.tmod (wrap64 (x15_4 + 1)) (wrap64 (2 + (wrap64 (Int.tmod (IntKind.u64.wrap (a0)) 30)))))))) = 1 then (mandrellaw20_MovesTurns.l2 k4 (wrap64 (2 + (wrap64 (Int.tmod (IntKind.u64.wrap (a0)) 30)))) (wrap64 (Int.tmod (IntKind.u64.wrap (a1)) 100)) t137 t149 (wrap64 (x15_4 + 1))) else (some false)) else (none)) else (none))) else (some false)) = some r := H
                            have A32 := Aside0.mk A320
                            clear A320
                            rcases t148 with _ | q150
                            · have H1 : (if (wrap64 (2 + (wrap64 (Int.tmod (IntKind.u64.wrap (a0)) 30)))) = 0 then (none) else (if 0 ≤ (wrap64 ((wrap64 (Int.tmod (IntKind.u64.wrap (a1)) 100)) + (Int.tmod (wrap64 (x15_4 + 1)) (wrap64 (2 + (wrap64 (Int.tmod (IntKind.u64.wrap (a0)) 30))))))) then (if (wrap64 ((wrap64 (Int.tmod (IntKind.u64.wrap (a1)) 100)) + (Int.tmod (wrap64 (x15_4 + 1)) (wrap64 (2 + (wrap64 (Int.tmod (IntKind.u64.wrap (a0)) 30))))))) < (x13_4.length : Int) then (if (rd t149 (wrap64 ((wrap64 (Int.tmod (IntKind.u64.wrap (a1)) 100)) + (Int.tmod (wrap64 (x15_4 + 1)) (wrap64 (2 + (wrap64 (Int.tmod (IntKind.u64.wrap (a0)) 30)))))))) = 1 then (mandrellaw20_MovesTurns.l2 k4 (wrap64 (2 + (wrap64 (Int.tmod (IntKind.u64.wrap (a0)) 30)))) (wrap64 (Int.tmod (IntKind.u64.wrap (a1)) 100)) t137 t149 (wrap64 (x15_4 + 1))) else (some false)) else (none)) else (none))) = some r := by rw [if_pos (show (none : Option Int).isNone = true by rfl)] at H; exact H
                              clear H
                              have H := H1
                              clear H1
                              try simp only [errW_none, errW_some]
                              by_cases c33 : (wrap64 (2 + (wrap64 (Int.tmod (IntKind.u64.wrap (a0)) 30)))) = 0
                              · rw [if_pos c33] at H
                                exact absurd H (by simp)
                              · rw [if_neg c33] at H
                                have c33b0 : ((wrap64 (2 + (wrap64 (Int.tmod (IntKind.u64.wrap (a0)) 30)))) == 0) = false := beq_eq_false_iff_ne.mpr c33
                                have c33b1 : ((wrap64 (2 + (wrap64 (Int.tmod (IntKind.u64.wrap (a0)) 30)))) != 0) = true := bne_iff_ne.mpr c33
                                obtain ⟨ji34, hji34⟩ : ∃ j_ : Int, (wrap64 ((wrap64 (Int.tmod (IntKind.u64.wrap (a1)) 100)) + (Int.tmod (wrap64 (x15_4 + 1)) (wrap64 (2 + (wrap64 (Int.tmod (IntKind.u64.wrap (a0)) 30))))))) = j_ := ⟨_, rfl⟩
                                replace H : (if 0 ≤ (ji34) then (if (ji34) < (x13_4.length : Int) then (if (rd t149 (ji34)) = 1 then (mandrellaw20_MovesTurns.l2 k4 (wrap64 (2 + (wrap64 (Int.tmod (IntKind.u64.wrap (a0)) 30)))) (wrap64 (Int.tmod (IntKind.u64.wrap (a1)) 100)) t137 t149 (wrap64 (x15_4 + 1))) else (some false)) else (none)) else (none)) = some r := by first | (rw [hji34] at H; exact H) | (simp only [hji34] at H ⊢; exact H)
                                (try rw [hji34] at A32)
                                have hji34w : (IntKind.i64.wrap ((wrap64 (Int.tmod (IntKind.u64.wrap (a1)) 100)) + (Int.tmod (wrap64 (x15_4 + 1)) (wrap64 (2 + (wrap64 (Int.tmod (IntKind.u64.wrap (a0)) 30))))))) = ji34 := (i64_w _).trans hji34
                                by_cases c35 : 0 ≤ (ji34)
                                · rw [if_pos c35] at H
                                  have c35b0 : decide (0 ≤ (ji34)) = true := decide_eq_true c35
                                  clear c35
                                  by_cases c36 : (ji34) < (x13_4.length : Int)
                                  · rw [if_pos c36] at H
                                    have c36b0 : decide ((ji34) < (x13_4.length : Int)) = true := decide_eq_true c36
                                    clear c36
                                    by_cases c37 : (rd t149 (ji34)) = 1
                                    · rw [if_pos c37] at H
                                      have c37b0 : ((rd t149 (ji34)) == 1) = true := beq_iff_eq.mpr c37
                                      have c37b1 : ((rd t149 (ji34)) != 1) = false := bne_eq_false_iff_eq.mpr c37
                                      clear c37
                                      have H' := Aside0.mk H
                                      clear H
                                      obtain ⟨Ao38, co38, eo38⟩ := Kd.R_slice HO_13.out
                                      subst eo38
                                      obtain ⟨Ao39, co39, eo39⟩ := Kd.R_slice HO_11.out
                                      subst eo39
                                      go_wp2_with (first | ((with_reducible refine gate_callee (f := 6) rfl ?_); refine goesL_ (some 101) rfl rfl Try.func6 (by kernel_rfl) rfl #[.slice Ao38 x13_4.length co38, .slice Ao39 t137.length co39] rfl (by (try simp only [List.map_toArray, List.map_cons, List.map_nil]); first | done | rfl | (simp only [List.length_drop, List.length_take]; rfl)) ?_; (with_reducible refine (moves_Do.calls k4 (fun k_ => some k_ = (.slice Ao38 x13_4.length co38 : Value).ownBlock) (.slice Ao38 x13_4.length co38) x13_4 _ _ t137 none t149 w _ ?side1 ?side2 ?side3 ?side4 A32.out).mono ?_); (case side1 => repeat (first | (with_reducible first | exact HB.out | apply below_alloc | apply pw_below_drewN | apply below_drew1) | exact HB.out)); (case side2 => exact Kd.R_tight rfl HO_13.out); (case side3 => exact Kd.C_kept_own ((Kd.R_apart' HO_11.out (Kd.R_typed HO_13.out) (by decide))) (fun k_ hk_ hs_ => (hk_.2) hs_)); (case side4 => exact (Kd.R_reads' HO_11.out).2.1); rintro e w40 ⟨rfl, hy0, hb, hkp⟩; refine ⟨_, rfl, ?_⟩; have n0_ := Aside0.mk (Kd.R_mono (ok' := fun k_ => True) (Kd.R_keptB ((Kd.R_apart' HO_11.out (Kd.R_typed HO_13.out) (by decide))) hkp (fun k_ hk_ hs_ => (hk_.2) hs_)) (fun k_ hk_ => trivial)); have n1_ := Aside0.mk (Kd.R_reok rfl hy0 (fun k_ e_ => HO_13.out.1 k_ e_)); have n2_ := Aside0.mk (hb); clear HO_11; clear HO_13; clear HB; have HO_11 := n0_; have HO_13 := n1_; have HB := n2_; clear n0_ n1_ n2_; (try clear hb); (try clear hkp); (try clear hy0); (try simp only [errW_none, errW_some]); have p151 : 0 ≤ ((ji34) : Int) := of_decide_eq_true (by first | (with_reducible assumption) | assumption); have q151 : (ji34) < (t149.length : Int) := (by have h_ : ((ji34) : Int) < ((x13_4.length : Int) : Int) := of_decide_eq_true (by first | (with_reducible assumption) | assumption); have e_ := (Kd.R_reads' HO_13.out).1; omega); have ql151 : (((ji34) : Int) < ((x13_4.length : Int) : Int)) = True := eq_true (of_decide_eq_true (by first | (with_reducible assumption) | assumption)); obtain ⟨ad151, e151, hx151_0⟩ := Kd.at_int (Kd.R_reads' HO_13.out).2.2 (ji34) p151 q151; cases e151; replace p151 := eq_true p151; replace q151 := eq_true q151))
                                      go_roundg k4
                                      case measure => have := HK1.out; have := HJ8.out; have := HK3.out; have := HK4.out; omega
                                      case rel => exact ⟨(t149), (wrap64 (x15_4 + 1)), (by first | rfl | (simp; done) | (simp [*]; done)), H', ⟨by have := HK1.out; have := HJ8.out; have := HK3.out; have := HK4.out; omega⟩, ⟨by (with_reducible repeat (first | apply Kd.R_alloc | apply Kd.R_drewN | apply Kd.R_drew)); exact HO_11.out⟩, ⟨by (with_reducible repeat (first | apply Kd.R_alloc | apply Kd.R_drewN | apply Kd.R_drew)); exact HO_13.out⟩, ⟨by repeat (first | (with_reducible first | exact HB.out | apply below_alloc | apply pw_below_drewN | apply below_drew1) | exact HB.out)⟩⟩
                                    · rw [if_neg c37] at H
                                      have c37b0 : ((rd t149 (ji34)) == 1) = false := beq_eq_false_iff_ne.mpr c37
                                      have c37b1 : ((rd t149 (ji34)) != 1) = true := bne_iff_ne.mpr c37
                                      obtain rfl := Option.some.inj H
                                      obtain ⟨Ao41, co41, eo41⟩ := Kd.R_slice HO_13.out
                                      subst eo41
                                      obtain ⟨Ao42, co42, eo42⟩ := Kd.R_slice HO_11.out
                                      subst eo42
                                      go_wp2_with (first | ((with_reducible refine gate_callee (f := 6) rfl ?_); refine goesL_ (some 101) rfl rfl Try.func6 (by kernel_rfl) rfl #[.slice Ao41 x13_4.length co41, .slice Ao42 t137.length co42] rfl (by (try simp only [List.map_toArray, List.map_cons, List.map_nil]); first | done | rfl | (simp only [List.length_drop, List.length_take]; rfl)) ?_; (with_reducible refine (moves_Do.calls k4 (fun k_ => some k_ = (.slice Ao41 x13_4.length co41 : Value).ownBlock) (.slice Ao41 x13_4.length co41) x13_4 _ _ t137 none t149 w _ ?side1 ?side2 ?side3 ?side4 A32.out).mono ?_); (case side1 => repeat (first | (with_reducible first | exact HB.out | apply below_alloc | apply pw_below_drewN | apply below_drew1) | exact HB.out)); (case side2 => exact Kd.R_tight rfl HO_13.out); (case side3 => exact Kd.C_kept_own ((Kd.R_apart' HO_11.out (Kd.R_typed HO_13.out) (by decide))) (fun k_ hk_ hs_ => (hk_.2) hs_)); (case side4 => exact (Kd.R_reads' HO_11.out).2.1); rintro e w43 ⟨rfl, hy0, hb, hkp⟩; refine ⟨_, rfl, ?_⟩; have n0_ := Aside0.mk (Kd.R_mono (ok' := fun k_ => True) (Kd.R_keptB ((Kd.R_apart' HO_11.out (Kd.R_typed HO_13.out) (by decide))) hkp (fun k_ hk_ hs_ => (hk_.2) hs_)) (fun k_ hk_ => trivial)); have n1_ := Aside0.mk (Kd.R_reok rfl hy0 (fun k_ e_ => HO_13.out.1 k_ e_)); have n2_ := Aside0.mk (hb); clear HO_11; clear HO_13; clear HB; have HO_11 := n0_; have HO_13 := n1_; have HB := n2_; clear n0_ n1_ n2_; (try clear hb); (try clear hkp); (try clear hy0); (try simp only [errW_none, errW_some]); have p151 : 0 ≤ ((ji34) : Int) := of_decide_eq_true (by first | (with_reducible assumption) | assumption); have q151 : (ji34) < (t149.length : Int) := (by have h_ : ((ji34) : Int) < ((x13_4.length : Int) : Int) := of_decide_eq_true (by first | (with_reducible assumption) | assumption); have e_ := (Kd.R_reads' HO_13.out).1; omega); have ql151 : (((ji34) : Int) < ((x13_4.length : Int) : Int)) = True := eq_true (of_decide_eq_true (by first | (with_reducible assumption) | assumption)); obtain ⟨ad151, e151, hx151_0⟩ := Kd.at_int (Kd.R_reads' HO_13.out).2.2 (ji34) p151 q151; cases e151; replace p151 := eq_true p151; replace q151 := eq_true q151))
                                      go_ret
                                      exact ⟨by first | rfl | (simp [errW_none, errW_some] <;> rfl) | (simp only [← hji34]; first | rfl | (simp [errW_none, errW_some] <;> rfl)) | (simp [*, errW_none, errW_some] <;> rfl), by repeat (first | (with_reducible first | exact HB.out | apply below_alloc | apply pw_below_drewN | apply below_drew1) | exact HB.out)⟩
                                  · rw [if_neg c36] at H
                                    exact absurd H (by simp)
                                · rw [if_neg c35] at H
                                  exact absurd H (by simp)
                            · have H1 : (some false) = some r := by rw [if_neg (show ¬ (some q150).isNone = true by simp)] at H; exact H
                              clear H
                              have H := H1
                              clear H1
                              try simp only [errW_none, errW_some]
                              obtain rfl := Option.some.inj H
                              obtain ⟨Ao44, co44, eo44⟩ := Kd.R_slice HO_13.out
                              subst eo44
                              obtain ⟨Ao45, co45, eo45⟩ := Kd.R_slice HO_11.out
                              subst eo45
                              go_wp2_with (first | ((with_reducible refine gate_callee (f := 6) rfl ?_); refine goesL_ (some 101) rfl rfl Try.func6 (by kernel_rfl) rfl #[.slice Ao44 x13_4.length co44, .slice Ao45 t137.length co45] rfl (by (try simp only [List.map_toArray, List.map_cons, List.map_nil]); first | done | rfl | (simp only [List.length_drop, List.length_take]; rfl)) ?_; (with_reducible refine (moves_Do.calls k4 (fun k_ => some k_ = (.slice Ao44 x13_4.length co44 : Value).ownBlock) (.slice Ao44 x13_4.length co44) x13_4 _ _ t137 (some q150) t149 w _ ?side1 ?side2 ?side3 ?side4 A32.out).mono ?_); (case side1 => repeat (first | (with_reducible first | exact HB.out | apply below_alloc | apply pw_below_drewN | apply below_drew1) | exact HB.out)); (case side2 => exact Kd.R_tight rfl HO_13.out); (case side3 => exact Kd.C_kept_own ((Kd.R_apart' HO_11.out (Kd.R_typed HO_13.out) (by decide))) (fun k_ hk_ hs_ => (hk_.2) hs_)); (case side4 => exact (Kd.R_reads' HO_11.out).2.1); rintro e w46 ⟨rfl, hy0, hb, hkp⟩; refine ⟨_, rfl, ?_⟩; have n0_ := Aside0.mk (Kd.R_mono (ok' := fun k_ => True) (Kd.R_keptB ((Kd.R_apart' HO_11.out (Kd.R_typed HO_13.out) (by decide))) hkp (fun k_ hk_ hs_ => (hk_.2) hs_)) (fun k_ hk_ => trivial)); have n1_ := Aside0.mk (Kd.R_reok rfl hy0 (fun k_ e_ => HO_13.out.1 k_ e_)); have n2_ := Aside0.mk (hb); clear HO_11; clear HO_13; clear HB; have HO_11 := n0_; have HO_13 := n1_; have HB := n2_; clear n0_ n1_ n2_; (try clear hb); (try clear hkp); (try clear hy0); (try simp only [errW_none, errW_some])))
                              go_ret
                              exact ⟨by first | rfl | (simp [errW_none, errW_some] <;> rfl) | (simp [*, errW_none, errW_some] <;> rfl), by repeat (first | (with_reducible first | exact HB.out | apply below_alloc | apply pw_below_drewN | apply below_drew1) | exact HB.out)⟩
                          · rw [if_neg c31] at H
                            have c31b0 : decide (x15_4 < (wrap64 (2 + (wrap64 (Int.tmod (IntKind.u64.wrap (a0)) 30))))) = false := decide_eq_false c31
                            clear c31
                            have H' := Aside0.mk H
                            clear H
                            go_wp2
                            go_loopg [16] k4 (fun kq v16 w' => ∃ (x16_5 : Int), v16 = .int .i64 x16_5 ∧ Aside0 (mandrellaw20_MovesTurns.l3 kq (wrap64 (2 + (wrap64 (Int.tmod (IntKind.u64.wrap (a0)) 30)))) (wrap64 (Int.tmod (IntKind.u64.wrap (a1)) 100)) x13_4 x16_5 = some r) ∧ Aside0 (kq ≤ k4) ∧ Aside0 (Kd.R (Kd.int .u64) 35 w' w.heap.size (fun _ => True) v145 x13_4) ∧ Aside0 (Below w.heap.size w w'))
                            case atStart => exact ⟨(0), (by first | rfl | (simp; done) | (simp [*]; done)), H', ⟨Nat.le_refl _⟩, ⟨by (with_reducible repeat (first | apply Kd.R_alloc | apply Kd.R_drewN | apply Kd.R_drew)); exact HO_13.out⟩, ⟨by repeat (first | (with_reducible first | exact HB.out | apply below_alloc | apply pw_below_drewN | apply below_drew1) | exact HB.out)⟩⟩
                            case round =>
                              clear H'
                              try clear c1
                              try clear p1
                              try clear q1
                              try clear hx1
                              try clear qi1
                              try clear c2
                              try clear p2
                              try clear q2
                              try clear hx2
                              try clear hf2
                              try clear c3
                              try clear c3b0
                              try clear c4
                              try clear c4b0
                              try clear c4b1
                              try clear c5
                              try clear c6
                              try clear p6
                              try clear c13
                              try clear c13b0
                              try clear c13b1
                              try clear c14
                              try clear c14b0
                              try clear c14b1
                              try clear p14
                              try clear q14
                              try clear hx14
                              try clear qi14
                              try clear c15
                              try clear c15b0
                              try clear c15b1
                              try clear p15
                              try clear q15
                              try clear hx15
                              try clear c20
                              try clear c21
                              try clear c21b0
                              try clear c21b1
                              try clear c24
                              try clear c24b0
                              try clear c26
                              try clear c26b0
                              try clear c27
                              try clear c27b0
                              try clear p28
                              try clear q28
                              try clear hx28
                              try clear hf28
                              try clear c31
                              try clear c31b0
                              try clear c33
                              try clear c33b0
                              try clear c33b1
                              try clear c35
                              try clear c35b0
                              try clear c36
                              try clear c36b0
                              try clear c37
                              try clear c37b0
                              try clear c37b1
                              try clear hx143_0
                              try clear hx151_0
                              try clear hx28_0
                              try clear p1
                              try clear p14
                              try clear p143
                              try clear p151
                              try clear p2
                              try clear p28
                              try clear p6
                              try clear q1
                              try clear q14
                              try clear q141
                              try clear q142
                              try clear q143
                              try clear q150
                              try clear q151
                              try clear q2
                              try clear q28
                              obtain ⟨x16_5, rfl, HA, HK5, HO_13, HB⟩ := hrel
                              cases gk with
                              | zero => exact absurd HA.out (by simp [mandrellaw20_MovesTurns.l3])
                              | succ k5 =>
                                have H := HA.out
                                clear HA
                                simp only [mandrellaw20_MovesTurns.l3] at H
                                by_cases c47 : x16_5 < (wrap64 (2 + (wrap64 (Int.tmod (IntKind.u64.wrap (a0)) 30))))
                                · rw [if_pos c47] at H
                                  have c47b0 : decide (x16_5 < (wrap64 (2 + (wrap64 (Int.tmod (IntKind.u64.wrap (a0)) 30))))) = true := decide_eq_true c47
                                  clear c47
                                  obtain ⟨ji48, hji48⟩ : ∃ j_ : Int, (wrap64 ((wrap64 (Int.tmod (IntKind.u64.wrap (a1)) 100)) + x16_5)) = j_ := ⟨_, rfl⟩
                                  replace H : (if 0 ≤ (ji48) then (if (ji48) < (x13_4.length : Int) then (if (rd x13_4 (ji48)) = (IntKind.u64.wrap (wrap64 (x16_5 + 1))) then (mandrellaw20_MovesTurns.l3 k5 (wrap64 (2 + (wrap64 (Int.tmod (IntKind.u64.wrap (a0)) 30)))) (wrap64 (Int.tmod (IntKind.u64.wrap (a1)) 100)) x13_4 (wrap64 (x16_5 + 1))) else (some false)) else (none)) else (none)) = some r := by first | (rw [hji48] at H; exact H) | (simp only [hji48] at H ⊢; exact H)
                                  have hji48w : (IntKind.i64.wrap ((wrap64 (Int.tmod (IntKind.u64.wrap (a1)) 100)) + x16_5)) = ji48 := (i64_w _).trans hji48
                                  by_cases c49 : 0 ≤ (ji48)
                                  · rw [if_pos c49] at H
                                    have c49b0 : decide (0 ≤ (ji48)) = true := decide_eq_true c49
                                    clear c49
                                    by_cases c50 : (ji48) < (x13_4.length : Int)
                                    · rw [if_pos c50] at H
                                      have c50b0 : decide ((ji48) < (x13_4.length : Int)) = true := decide_eq_true c50
                                      clear c50
                                      by_cases c51 : (rd x13_4 (ji48)) = (IntKind.u64.wrap (wrap64 (x16_5 + 1)))
                                      · rw [if_pos c51] at H
                                        have c51b0 : ((rd x13_4 (ji48)) == (IntKind.u64.wrap (wrap64 (x16_5 + 1)))) = true := beq_iff_eq.mpr c51
                                        have c51b1 : ((rd x13_4 (ji48)) != (IntKind.u64.wrap (wrap64 (x16_5 + 1)))) = false := bne_eq_false_iff_eq.mpr c51
                                        clear c51
                                        have H' := Aside0.mk H
                                        clear H
                                        obtain ⟨Ao52, co52, eo52⟩ := Kd.R_slice HO_13.out
                                        subst eo52
                                        have p152 : 0 ≤ ((ji48) : Int) := of_decide_eq_true (by first | (with_reducible assumption) | assumption)
                                        have q152 : (ji48) < (x13_4.length : Int) := of_decide_eq_true (by first | (with_reducible assumption) | assumption)
                                        obtain ⟨ad152, e152, hx152_0⟩ := Kd.at_int (Kd.R_reads' HO_13.out).2.2 (ji48) p152 q152
                                        cases e152
                                        replace p152 := eq_true p152
                                        replace q152 := eq_true q152
                                        go_wp2
                                        go_roundg k5
                                        case measure => have := HK1.out; have := HJ8.out; have := HK3.out; have := HK4.out; have := HK5.out; omega
                                        case rel => exact ⟨(wrap64 (x16_5 + 1)), (by first | rfl | (simp; done) | (simp [*]; done)), H', ⟨by have := HK1.out; have := HJ8.out; have := HK3.out; have := HK4.out; have := HK5.out; omega⟩, ⟨by (with_reducible repeat (first | apply Kd.R_alloc | apply Kd.R_drewN | apply Kd.R_drew)); exact HO_13.out⟩, ⟨by repeat (first | (with_reducible first | exact HB.out | apply below_alloc | apply pw_below_drewN | apply below_drew1) | exact HB.out)⟩⟩
                                      · rw [if_neg c51] at H
                                        have c51b0 : ((rd x13_4 (ji48)) == (IntKind.u64.wrap (wrap64 (x16_5 + 1)))) = false := beq_eq_false_iff_ne.mpr c51
                                        have c51b1 : ((rd x13_4 (ji48)) != (IntKind.u64.wrap (wrap64 (x16_5 + 1)))) = true := bne_iff_ne.mpr c51
                                        obtain rfl := Option.some.inj H
                                        obtain ⟨Ao53, co53, eo53⟩ := Kd.R_slice HO_13.out
                                        subst eo53
                                        have p152 : 0 ≤ ((ji48) : Int) := of_decide_eq_true (by first | (with_reducible assumption) | assumption)
                                        have q152 : (ji48) < (x13_4.length : Int) := of_decide_eq_true (by first | (with_reducible assumption) | assumption)
                                        obtain ⟨ad152, e152, hx152_0⟩ := Kd.at_int (Kd.R_reads' HO_13.out).2.2 (ji48) p152 q152
                                        cases e152
                                        replace p152 := eq_true p152
                                        replace q152 := eq_true q152
                                        go_wp2
                                        go_ret
                                        exact ⟨by first | rfl | (simp [errW_none, errW_some] <;> rfl) | (simp only [← hji48]; first | rfl | (simp [errW_none, errW_some] <;> rfl)) | (simp [*, errW_none, errW_some] <;> rfl), by repeat (first | (with_reducible first | exact HB.out | apply below_alloc | apply pw_below_drewN | apply below_drew1) | exact HB.out)⟩
                                    · rw [if_neg c50] at H
                                      exact absurd H (by simp)
                                  · rw [if_neg c49] at H
                                    exact absurd H (by simp)
                                · rw [if_neg c47] at H
                                  have c47b0 : decide (x16_5 < (wrap64 (2 + (wrap64 (Int.tmod (IntKind.u64.wrap (a0)) 30))))) = false := decide_eq_false c47
                                  clear c47
                                  replace H := Option.bind_eq_some_iff.mp H
                                  obtain ⟨t153, A540, H⟩ := H
                                  replace H : (some t153) = some r := H
                                  have A54 := Aside0.mk A540
                                  clear A540
                                  obtain rfl := Option.some.inj H
                                  go_wp2_with (first | ((with_reducible refine gate_callee (f := 7) rfl ?_); refine goesL_ (some 128) rfl rfl Try.func7 (by kernel_rfl) rfl #[] rfl (by (try simp only [List.map_toArray, List.map_cons, List.map_nil]); first | done | rfl | (simp only [List.length_drop, List.length_take]; rfl)) ?_; (with_reducible refine (mandrellaw20_sure.calls k5  t153 _ A54.out).mono ?_); rintro e w55 ⟨rfl, hb⟩; refine ⟨_, rfl, ?_⟩; have n0_ := Aside0.mk (Kd.R_below (by (with_reducible repeat (first | apply Kd.R_alloc | apply Kd.R_drewN | apply Kd.R_drew)); exact HO_13.out) hb); have n1_ := Aside0.mk (below_step (by repeat (first | (with_reducible first | exact HB.out | apply below_alloc | apply pw_below_drewN | apply below_drew1) | exact HB.out)) hb); clear HO_13; clear HB; have HO_13 := n0_; have HB := n1_; clear n0_ n1_; (try clear hb); (try clear hb2); (try clear hk); (try clear hi)))
                                  go_ret
                                  exact ⟨by first | rfl | (simp [errW_none, errW_some] <;> rfl) | (simp [*, errW_none, errW_some] <;> rfl), by repeat (first | (with_reducible first | exact HB.out | apply below_alloc | apply pw_below_drewN | apply below_drew1) | exact HB.out)⟩
              · rw [if_neg c21] at H
                exact absurd H (by simp)

/-- THE ONE PURE STATEMENT of mandrellaw20_MovesTurns: yours. -/
def mandrellaw20_MovesTurns.Pure : Prop := ∀ (a0 : Int) (a1 : Int), (Lit.int .i64 a0).wf = true → (Lit.int .i64 a1).wf = true → ∃ k, mandrellaw20_MovesTurns.f k a0 a1 = some true
theorem mandrellaw20_MovesTurns.walk (P : mandrellaw20_MovesTurns.Pure) (a0 : Int) (a1 : Int) (w : World) (w0 : (Lit.int .i64 a0).wf = true) (w1 : (Lit.int .i64 a1).wf = true) :
    Calls Try.prog 3 #[.int .i64 a0, .int .i64 a1] w fun e w' => e = .returned (.bool true) ∧ Below w.heap.size w w' := by
  obtain ⟨k, h⟩ := P a0 a1 w0 w1
  refine (mandrellaw20_MovesTurns.calls k a0 a1 true w h).mono ?_
  rintro e w' ⟨rfl, hd⟩
  exact ⟨rfl, hd⟩

end Go.Proofs.Ytaklfdlcedlmfaa.XM
