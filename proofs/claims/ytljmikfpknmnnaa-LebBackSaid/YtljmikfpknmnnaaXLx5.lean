/- Functions of the Go program as Lean functions, and the proofs that the Go code answers as they do. Written by a program of this session. -/
import Derived.Test.YtljmikfpknmnnaaXLx0
import Derived.Test.YtljmikfpknmnnaaXLx1
import Derived.Test.YtljmikfpknmnnaaXLx2
import Derived.Test.YtljmikfpknmnnaaXLx3
namespace Go.Proofs.Ytljmikfpknmnnaa.XL
open Go.RowKit Go.Proofs.YtljmikfpknmnnaaW.PrintWords Go.Proofs.YtljmikfpknmnnaaW.PrintLast Go.Proofs.YtljmikfpknmnnaaW.PrintMore
attribute [local go_sem] max2_int min2_int max_two min_two max_three min_three max_four min_four   -- for this text's walks alone
set_option linter.unusedVariables false
set_option linter.unusedSimpArgs false

/-! ### mandrellaw01_LebBack: function 5 -/
def mandrellaw01_LebBack.j0 : Nat → Int → List Int → List Int → Bool → Option (Bool)
  | 0, _, _, _, _ => none
  | k + 1, x0, x5, x6, x77 => if x77 = true then (some false) else ((leb_TakeU.f k x5 32).bind fun bt227 => ((leb_TakeS.f k x6 32).bind fun bt230 => (if bt227.2.2.isNone = true then (if (true == (decide (x0 < 4294967296))) = true then (if bt227.1 = x0 then (if bt230.2.2.isNone = true then (if (wrap64 (x0)) ≥ (-2147483648) then (if (true == (decide ((wrap64 (x0)) < 2147483648))) = true then (if bt230.1 = (wrap64 (x0)) then ((mandrellaw01_sure.f k).bind fun t235 => (some t235)) else (some false)) else (some false)) else (if (true == false) = true then (if bt230.1 = (wrap64 (x0)) then ((mandrellaw01_sure.f k).bind fun t236 => (some t236)) else (some false)) else (some false))) else (if (wrap64 (x0)) ≥ (-2147483648) then (if (false == (decide ((wrap64 (x0)) < 2147483648))) = true then ((mandrellaw01_sure.f k).bind fun t237 => (some t237)) else (some false)) else (if (false == false) = true then ((mandrellaw01_sure.f k).bind fun t238 => (some t238)) else (some false)))) else (some false)) else (some false)) else (if (false == (decide (x0 < 4294967296))) = true then (if bt230.2.2.isNone = true then (if (wrap64 (x0)) ≥ (-2147483648) then (if (true == (decide ((wrap64 (x0)) < 2147483648))) = true then (if bt230.1 = (wrap64 (x0)) then ((mandrellaw01_sure.f k).bind fun t240 => (some t240)) else (some false)) else (some false)) else (if (true == false) = true then (if bt230.1 = (wrap64 (x0)) then ((mandrellaw01_sure.f k).bind fun t241 => (some t241)) else (some false)) else (some false))) else (if (wrap64 (x0)) ≥ (-2147483648) then (if (false == (decide ((wrap64 (x0)) < 2147483648))) = true then ((mandrellaw01_sure.f k).bind fun t242 => (some t242)) else (some false)) else (if (false == false) = true then ((mandrellaw01_sure.f k).bind fun t243 => (some t243)) else (some false)))) else (some false)))))
def mandrellaw01_LebBack.f (k : Nat) (a0 : Int) (l1 : List Int) : Option (Bool) := if (l1.length : Int) > 1000 then ((mandrellaw01_sure.f k).bind fun t198 => (some t198)) else ((leb_PutU.f k ([] : List Int) a0).bind fun t199 => (if ([] : List Int).length + t199.length < 140737488355328 then ((some (([] : List Int) ++ t199 : List Int)).bind fun y202 => (if y202.length + l1.length < 140737488355328 then ((some (y202 ++ l1 : List Int)).bind fun y205 => ((leb_PutS.f k ([] : List Int) (wrap64 (a0))).bind fun t208 => (if ([] : List Int).length + t208.length < 140737488355328 then ((some (([] : List Int) ++ t208 : List Int)).bind fun y211 => (if y211.length + l1.length < 140737488355328 then ((some (y211 ++ l1 : List Int)).bind fun y214 => ((leb_TakeU.f k y205 64).bind fun bt217 => ((leb_TakeS.f k y214 64).bind fun bt220 => (if bt217.2.2.isNone = true then (if bt220.2.2.isNone = true then (if bt217.1 = a0 then (if bt220.1 = (wrap64 (a0)) then ((leb_SizeU.f a0).bind fun t225 => (if bt217.2.1 = t225 then ((leb_SizeS.f (wrap64 (a0))).bind fun t226 => (mandrellaw01_LebBack.j0 k a0 y205 y214 (bt220.2.1 != t226))) else (mandrellaw01_LebBack.j0 k a0 y205 y214 true))) else (mandrellaw01_LebBack.j0 k a0 y205 y214 true)) else (mandrellaw01_LebBack.j0 k a0 y205 y214 true)) else (mandrellaw01_LebBack.j0 k a0 y205 y214 true)) else (mandrellaw01_LebBack.j0 k a0 y205 y214 true))))) else (none))) else (none)))) else (none))) else (none)))
theorem mandrellaw01_LebBack.mono_l : ∀ k, (∀ y0 y1 y2 y3, LeO (mandrellaw01_LebBack.j0 k y0 y1 y2 y3) (mandrellaw01_LebBack.j0 (k + 1) y0 y1 y2 y3))
  | 0 => fun _ _ _ _ r h => by simp [mandrellaw01_LebBack.j0] at h
  | k + 1 => by
    have ih0 := mandrellaw01_LebBack.mono_l k
    · intro y0 y1 y2 y3
      unfold mandrellaw01_LebBack.j0
      repeat' first
      | (with_reducible exact ih0 _ _ _ _)
      | (with_reducible exact leb_PutS.mono _ _ _)
      | (with_reducible exact leb_PutU.mono _ _ _)
      | (with_reducible exact leb_TakeS.mono _ _ _)
      | (with_reducible exact leb_TakeU.mono _ _ _)
      | (with_reducible exact mandrellaw01_sure.mono _)
      | (with_reducible exact LeO.refl _)
      | (with_reducible exact LeO.none _)
      | (with_reducible refine LeO.ite ?_ ?_)
      | (with_reducible refine LeO.bind ?_ (fun _ => ?_))
      | exact ih0 _ _ _ _
      | exact leb_PutS.mono _ _ _
      | exact leb_PutU.mono _ _ _
      | exact leb_TakeS.mono _ _ _
      | exact leb_TakeU.mono _ _ _
      | exact mandrellaw01_sure.mono _
      | exact LeO.none _
      | refine LeO.ite ?_ ?_
      | refine LeO.bind ?_ (fun _ => ?_)
theorem mandrellaw01_LebBack.mono : ∀ a0 a1 k, LeO (mandrellaw01_LebBack.f k a0 a1) (mandrellaw01_LebBack.f (k + 1) a0 a1) := by
  intro a0 a1 k
  have ih0 := mandrellaw01_LebBack.mono_l k
  unfold mandrellaw01_LebBack.f
  repeat' first
      | (with_reducible exact ih0 _ _ _ _)
      | (with_reducible exact leb_PutS.mono _ _ _)
      | (with_reducible exact leb_PutU.mono _ _ _)
      | (with_reducible exact leb_TakeS.mono _ _ _)
      | (with_reducible exact leb_TakeU.mono _ _ _)
      | (with_reducible exact mandrellaw01_sure.mono _)
      | (with_reducible exact LeO.refl _)
      | (with_reducible exact LeO.none _)
      | (with_reducible refine LeO.ite ?_ ?_)
      | (with_reducible refine LeO.bind ?_ (fun _ => ?_))
      | exact ih0 _ _ _ _
      | exact leb_PutS.mono _ _ _
      | exact leb_PutU.mono _ _ _
      | exact leb_TakeS.mono _ _ _
      | exact leb_TakeU.mono _ _ _
      | exact mandrellaw01_sure.mono _
      | exact LeO.none _
      | refine LeO.ite ?_ ?_
      | refine LeO.bind ?_ (fun _ => ?_)
set_option maxHeartbeats 8000000 in
set_option maxRecDepth 100000 in
theorem mandrellaw01_LebBack.calls (k : Nat) (a0 : Int) (A1 : Option Addr) (c1 : Nat) (l1 : List Int) (r : Bool) (w : World) (hr1 : Kd.C (Kd.int .u8) w A1 l1.length l1) (hc1 : l1.length ≤ c1) (h : mandrellaw01_LebBack.f k a0 l1 = some r) :
    Calls Try.prog 5 #[.int .u64 a0, .slice A1 l1.length c1] w fun e w' => e = .returned (.bool r) ∧ Below w.heap.size w w' := by
  have hu34 := Try.underlying34
  have hu45 := Try.underlying45
  have HR1 := Aside0.mk hr1
  have HC1 := Aside0.mk hc1
  clear hr1 hc1
  have HB := Aside0.mk (Below.refl w.heap.size w)
  have H : (if (l1.length : Int) > 1000 then ((mandrellaw01_sure.f k).bind fun t198 => (some t198)) else ((leb_PutU.f k ([] : List Int) a0).bind fun t199 => (if ([] : List Int).length + t199.length < 140737488355328 then ((some (([] : List Int) ++ t199 : List Int)).bind fun y202 => (if y202.length + l1.length < 140737488355328 then ((some (y202 ++ l1 : List Int)).bind fun y205 => ((leb_PutS.f k ([] : List Int) (wrap64 (a0))).bind fun t208 => (if ([] : List Int).length + t208.length < 140737488355328 then ((some (([] : List Int) ++ t208 : List Int)).bind fun y211 => (if y211.length + l1.length < 140737488355328 then ((some (y211 ++ l1 : List Int)).bind fun y214 => ((leb_TakeU.f k y205 64).bind fun bt217 => ((leb_TakeS.f k y214 64).bind fun bt220 => (if bt217.2.2.isNone = true then (if bt220.2.2.isNone = true then (if bt217.1 = a0 then (if bt220.1 = (wrap64 (a0)) then ((leb_SizeU.f a0).bind fun t225 => (if bt217.2.1 = t225 then ((leb_SizeS.f (wrap64 (a0))).bind fun t226 => (mandrellaw01_LebBack.j0 k a0 y205 y214 (bt220.2.1 != t226))) else (mandrellaw01_LebBack.j0 k a0 y205 y214 true))) else (mandrellaw01_LebBack.j0 k a0 y205 y214 true)) else (mandrellaw01_LebBack.j0 k a0 y205 y214 true)) else (mandrellaw01_LebBack.j0 k a0 y205 y214 true)) else (mandrellaw01_LebBack.j0 k a0 y205 y214 true))))) else (none))) else (none)))) else (none))) else (none)))) = some r := h
  clear h
  by_cases c3 : (l1.length : Int) > 1000
  · rw [if_pos c3] at H
    have c3b0 : decide (1000 < (l1.length : Int)) = true := decide_eq_true c3
    have c3b1 : decide (1000 < l1.length) = true := decide_eq_true (by omega)
    clear c3
    replace H := Option.bind_eq_some_iff.mp H
    obtain ⟨t198, A40, H⟩ := H
    replace H : (some t198) = some r := H
    have A4 := Aside0.mk A40
    clear A40
    obtain rfl := Option.some.inj H
    go_enter Try.func5, Try.ntmps5
    go_wp2_with (first | ((with_reducible refine gate_callee (f := 8) rfl ?_); refine goesL_ (some 22) rfl rfl Try.func8 (by kernel_rfl) rfl #[] rfl (by (try simp only [List.map_toArray, List.map_cons, List.map_nil]); first | done | rfl | (simp only [List.length_drop, List.length_take]; rfl)) ?_; (with_reducible refine (mandrellaw01_sure.calls k  t198 _ A4.out).mono ?_); rintro e w5 ⟨rfl, hb⟩; refine ⟨_, rfl, ?_⟩; have n0_ := Aside0.mk (below_step (by repeat (first | (with_reducible first | exact HB.out | apply below_alloc | apply pw_below_drewN | apply below_drew1) | exact HB.out)) hb); clear HB; have HB := n0_; clear n0_; (try clear hb); (try clear hb2); (try clear hk); (try clear hi)))
    go_ret
    exact ⟨by first | rfl | (simp [errW_none, errW_some] <;> rfl) | (simp [*, errW_none, errW_some] <;> rfl), by repeat (first | (with_reducible first | exact HB.out | apply below_alloc | apply pw_below_drewN | apply below_drew1) | exact HB.out)⟩
  · rw [if_neg c3] at H
    have c3b0 : decide (1000 < (l1.length : Int)) = false := decide_eq_false c3
    have c3b1 : decide (1000 < l1.length) = false := decide_eq_false (by omega)
    clear c3
    replace H := Option.bind_eq_some_iff.mp H
    obtain ⟨t199, A60, H⟩ := H
    replace H : (if ([] : List Int).length + t199.length < 140737488355328 then ((some (([] : List Int) ++ t199 : List Int)).bind fun y202 => (if y202.length + l1.length < 140737488355328 then ((some (y202 ++ l1 : List Int)).bind fun y205 => ((leb_PutS.f k ([] : List Int) (wrap64 (a0))).bind fun t208 => (if ([] : List Int).length + t208.length < 140737488355328 then ((some (([] : List Int) ++ t208 : List Int)).bind fun y211 => (if y211.length + l1.length < 140737488355328 then ((some (y211 ++ l1 : List Int)).bind fun y214 => ((leb_TakeU.f k y205 64).bind fun bt217 => ((leb_TakeS.f k y214 64).bind fun bt220 => (if bt217.2.2.isNone = true then (if bt220.2.2.isNone = true then (if bt217.1 = a0 then (if bt220.1 = (wrap64 (a0)) then ((leb_SizeU.f a0).bind fun t225 => (if bt217.2.1 = t225 then ((leb_SizeS.f (wrap64 (a0))).bind fun t226 => (mandrellaw01_LebBack.j0 k a0 y205 y214 (bt220.2.1 != t226))) else (mandrellaw01_LebBack.j0 k a0 y205 y214 true))) else (mandrellaw01_LebBack.j0 k a0 y205 y214 true)) else (mandrellaw01_LebBack.j0 k a0 y205 y214 true)) else (mandrellaw01_LebBack.j0 k a0 y205 y214 true)) else (mandrellaw01_LebBack.j0 k a0 y205 y214 true))))) else (none))) else (none)))) else (none))) else (none)) = some r := H
    have A6 := Aside0.mk A60
    clear A60
    by_cases c7 : ([] : List Int).length + t199.length < 140737488355328
    · rw [if_pos c7] at H
      have LMc7 := Aside0.mk c7
      clear c7
      obtain ⟨y202, hy202⟩ : ∃ y_ : List Int, y_ = (([] : List Int) ++ t199) := ⟨_, rfl⟩
      replace H : (if y202.length + l1.length < 140737488355328 then ((some (y202 ++ l1 : List Int)).bind fun y205 => ((leb_PutS.f k ([] : List Int) (wrap64 (a0))).bind fun t208 => (if ([] : List Int).length + t208.length < 140737488355328 then ((some (([] : List Int) ++ t208 : List Int)).bind fun y211 => (if y211.length + l1.length < 140737488355328 then ((some (y211 ++ l1 : List Int)).bind fun y214 => ((leb_TakeU.f k y205 64).bind fun bt217 => ((leb_TakeS.f k y214 64).bind fun bt220 => (if bt217.2.2.isNone = true then (if bt220.2.2.isNone = true then (if bt217.1 = a0 then (if bt220.1 = (wrap64 (a0)) then ((leb_SizeU.f a0).bind fun t225 => (if bt217.2.1 = t225 then ((leb_SizeS.f (wrap64 (a0))).bind fun t226 => (mandrellaw01_LebBack.j0 k a0 y205 y214 (bt220.2.1 != t226))) else (mandrellaw01_LebBack.j0 k a0 y205 y214 true))) else (mandrellaw01_LebBack.j0 k a0 y205 y214 true)) else (mandrellaw01_LebBack.j0 k a0 y205 y214 true)) else (mandrellaw01_LebBack.j0 k a0 y205 y214 true)) else (mandrellaw01_LebBack.j0 k a0 y205 y214 true))))) else (none))) else (none)))) else (none)) = some r := by first | (rw [hy202]; with_reducible exact H) | (have H2_ := (Option.bind_some _ _).symm.trans H; rw [hy202]; with_reducible exact H2_) | (have H2_ := (Option.bind_some _ _).symm.trans H; with_reducible exact H2_) | with_reducible exact H | (rw [hy202]; exact H) | exact H
      have Ny202 := Aside0.mk hy202
      clear hy202
      by_cases c8 : y202.length + l1.length < 140737488355328
      · rw [if_pos c8] at H
        have LMc8 := Aside0.mk c8
        clear c8
        obtain ⟨y205, hy205⟩ : ∃ y_ : List Int, y_ = (y202 ++ l1) := ⟨_, rfl⟩
        replace H : ((leb_PutS.f k ([] : List Int) (wrap64 (a0))).bind fun t208 => (if ([] : List Int).length + t208.length < 140737488355328 then ((some (([] : List Int) ++ t208 : List Int)).bind fun y211 => (if y211.length + l1.length < 140737488355328 then ((some (y211 ++ l1 : List Int)).bind fun y214 => ((leb_TakeU.f k y205 64).bind fun bt217 => ((leb_TakeS.f k y214 64).bind fun bt220 => (if bt217.2.2.isNone = true then (if bt220.2.2.isNone = true then (if bt217.1 = a0 then (if bt220.1 = (wrap64 (a0)) then ((leb_SizeU.f a0).bind fun t225 => (if bt217.2.1 = t225 then ((leb_SizeS.f (wrap64 (a0))).bind fun t226 => (mandrellaw01_LebBack.j0 k a0 y205 y214 (bt220.2.1 != t226))) else (mandrellaw01_LebBack.j0 k a0 y205 y214 true))) else (mandrellaw01_LebBack.j0 k a0 y205 y214 true)) else (mandrellaw01_LebBack.j0 k a0 y205 y214 true)) else (mandrellaw01_LebBack.j0 k a0 y205 y214 true)) else (mandrellaw01_LebBack.j0 k a0 y205 y214 true))))) else (none))) else (none))) = some r := by first | (rw [hy205]; with_reducible exact H) | (have H2_ := (Option.bind_some _ _).symm.trans H; rw [hy205]; with_reducible exact H2_) | (have H2_ := (Option.bind_some _ _).symm.trans H; with_reducible exact H2_) | with_reducible exact H | (rw [hy205]; exact H) | exact H
        have Ny205 := Aside0.mk hy205
        clear hy205
        replace H := Option.bind_eq_some_iff.mp H
        obtain ⟨t208, A90, H⟩ := H
        replace H : (if ([] : List Int).length + t208.length < 140737488355328 then ((some (([] : List Int) ++ t208 : List Int)).bind fun y211 => (if y211.length + l1.length < 140737488355328 then ((some (y211 ++ l1 : List Int)).bind fun y214 => ((leb_TakeU.f k y205 64).bind fun bt217 => ((leb_TakeS.f k y214 64).bind fun bt220 => (if bt217.2.2.isNone = true then (if bt220.2.2.isNone = true then (if bt217.1 = a0 then (if bt220.1 = (wrap64 (a0)) then ((leb_SizeU.f a0).bind fun t225 => (if bt217.2.1 = t225 then ((leb_SizeS.f (wrap64 (a0))).bind fun t226 => (mandrellaw01_LebBack.j0 k a0 y205 y214 (bt220.2.1 != t226))) else (mandrellaw01_LebBack.j0 k a0 y205 y214 true))) else (mandrellaw01_LebBack.j0 k a0 y205 y214 true)) else (mandrellaw01_LebBack.j0 k a0 y205 y214 true)) else (mandrellaw01_LebBack.j0 k a0 y205 y214 true)) else (mandrellaw01_LebBack.j0 k a0 y205 y214 true))))) else (none))) else (none)) = some r := H
        have A9 := Aside0.mk A90
        clear A90
        by_cases c10 : ([] : List Int).length + t208.length < 140737488355328
        · rw [if_pos c10] at H
          have LMc10 := Aside0.mk c10
          clear c10
          obtain ⟨y211, hy211⟩ : ∃ y_ : List Int, y_ = (([] : List Int) ++ t208) := ⟨_, rfl⟩
          replace H : (if y211.length + l1.length < 140737488355328 then ((some (y211 ++ l1 : List Int)).bind fun y214 => ((leb_TakeU.f k y205 64).bind fun bt217 => ((leb_TakeS.f k y214 64).bind fun bt220 => (if bt217.2.2.isNone = true then (if bt220.2.2.isNone = true then (if bt217.1 = a0 then (if bt220.1 = (wrap64 (a0)) then ((leb_SizeU.f a0).bind fun t225 => (if bt217.2.1 = t225 then ((leb_SizeS.f (wrap64 (a0))).bind fun t226 => (mandrellaw01_LebBack.j0 k a0 y205 y214 (bt220.2.1 != t226))) else (mandrellaw01_LebBack.j0 k a0 y205 y214 true))) else (mandrellaw01_LebBack.j0 k a0 y205 y214 true)) else (mandrellaw01_LebBack.j0 k a0 y205 y214 true)) else (mandrellaw01_LebBack.j0 k a0 y205 y214 true)) else (mandrellaw01_LebBack.j0 k a0 y205 y214 true))))) else (none)) = some r := by first | (rw [hy211]; with_reducible exact H) | (have H2_ := (Option.bind_some _ _).symm.trans H; rw [hy211]; with_reducible exact H2_) | (have H2_ := (Option.bind_some _ _).symm.trans H; with_reducible exact H2_) | with_reducible exact H | (rw [hy211]; exact H) | exact H
          have Ny211 := Aside0.mk hy211
          clear hy211
          by_cases c11 : y211.length + l1.length < 140737488355328
          · rw [if_pos c11] at H
            have LMc11 := Aside0.mk c11
            clear c11
            obtain ⟨y214, hy214⟩ : ∃ y_ : List Int, y_ = (y211 ++ l1) := ⟨_, rfl⟩
            replace H : ((leb_TakeU.f k y205 64).bind fun bt217 => ((leb_TakeS.f k y214 64).bind fun bt220 => (if bt217.2.2.isNone = true then (if bt220.2.2.isNone = true then (if bt217.1 = a0 then (if bt220.1 = (wrap64 (a0)) then ((leb_SizeU.f a0).bind fun t225 => (if bt217.2.1 = t225 then ((leb_SizeS.f (wrap64 (a0))).bind fun t226 => (mandrellaw01_LebBack.j0 k a0 y205 y214 (bt220.2.1 != t226))) else (mandrellaw01_LebBack.j0 k a0 y205 y214 true))) else (mandrellaw01_LebBack.j0 k a0 y205 y214 true)) else (mandrellaw01_LebBack.j0 k a0 y205 y214 true)) else (mandrellaw01_LebBack.j0 k a0 y205 y214 true)) else (mandrellaw01_LebBack.j0 k a0 y205 y214 true)))) = some r := by first | (rw [hy214]; with_reducible exact H) | (have H2_ := (Option.bind_some _ _).symm.trans H; rw [hy214]; with_reducible exact H2_) | (have H2_ := (Option.bind_some _ _).symm.trans H; with_reducible exact H2_) | with_reducible exact H | (rw [hy214]; exact H) | exact H
            have Ny214 := Aside0.mk hy214
            clear hy214
            replace H := Option.bind_eq_some_iff.mp H
            obtain ⟨⟨t217, t218, t219⟩, A120, H⟩ := H
            replace H : ((leb_TakeS.f k y214 64).bind fun bt220 => (if t219.isNone = true then (if bt220.2.2.isNone = true then (if t217 = a0 then (if bt220.1 = (wrap64 (a0)) then ((leb_SizeU.f a0).bind fun t225 => (if t218 = t225 then ((leb_SizeS.f (wrap64 (a0))).bind fun t226 => (mandrellaw01_LebBack.j0 k a0 y205 y214 (bt220.2.1 != t226))) else (mandrellaw01_LebBack.j0 k a0 y205 y214 true))) else (mandrellaw01_LebBack.j0 k a0 y205 y214 true)) else (mandrellaw01_LebBack.j0 k a0 y205 y214 true)) else (mandrellaw01_LebBack.j0 k a0 y205 y214 true)) else (mandrellaw01_LebBack.j0 k a0 y205 y214 true))) = some r := H
            have A12 := Aside0.mk A120
            clear A120
            replace H := Option.bind_eq_some_iff.mp H
            obtain ⟨⟨t220, t221, t222⟩, A130, H⟩ := H
            replace H : (if t219.isNone = true then (if t222.isNone = true then (if t217 = a0 then (if t220 = (wrap64 (a0)) then ((leb_SizeU.f a0).bind fun t225 => (if t218 = t225 then ((leb_SizeS.f (wrap64 (a0))).bind fun t226 => (mandrellaw01_LebBack.j0 k a0 y205 y214 (t221 != t226))) else (mandrellaw01_LebBack.j0 k a0 y205 y214 true))) else (mandrellaw01_LebBack.j0 k a0 y205 y214 true)) else (mandrellaw01_LebBack.j0 k a0 y205 y214 true)) else (mandrellaw01_LebBack.j0 k a0 y205 y214 true)) else (mandrellaw01_LebBack.j0 k a0 y205 y214 true)) = some r := H
            have A13 := Aside0.mk A130
            clear A130
            have HC14 := Aside0.mk H
            clear H
            go_enter Try.func5, Try.ntmps5
            go_upto_region 8 with (first | ((with_reducible refine gate_callee (f := 11) rfl ?_); refine goesL_ (some 25) rfl rfl Try.func11 (by kernel_rfl) rfl #[.slice none 0 0, .int .u64 a0] rfl (by (try simp only [List.map_toArray, List.map_cons, List.map_nil]); first | done | rfl | (simp only [List.length_drop, List.length_take]; rfl)) ?_; (refine (leb_PutU.calls k _ _ ([] : List Int) a0 t199 _ ?side1 ?side2 A6.out).mono ?_); (case side1 => exact Kd.C_nil _ _); (case side2 => exact Nat.le_refl _); rintro e w15 ⟨v200, rfl, ho0, hb⟩; refine ⟨_, rfl, ?_⟩; have n0_ := Aside0.mk (Kd.R_lower ho0 (below_size (by repeat (first | (with_reducible first | exact HB.out | apply below_alloc | apply pw_below_drewN | apply below_drew1) | exact HB.out)))); have n1_ := Aside0.mk (below_step (by repeat (first | (with_reducible first | exact HB.out | apply below_alloc | apply pw_below_drewN | apply below_drew1) | exact HB.out)) hb); clear HB; have HO201 := n0_; have HB := n1_; clear n0_ n1_; (try clear hb); (try clear hb2); (try clear hk); (try clear hi); (try clear ho0); obtain ⟨Ao17, co17, eo17⟩ := Kd.R_slice HO201.out; subst eo17) | ((with_reducible refine gate_builtin (b := .append) (xs := #[.tmp 23, .tmp 25]) rfl ?_); at_builtin; refine Kd.R_append_rows (Kd.int .u8) (w0 := w) w.heap.size rfl (.tmp 23) (.tmp 25) 22 5 (.int .u8 0) 1 rfl Try.underlying22 info5 rfl (by decide) (by omega) (.slice none 0 0) ([] : List Int) t199 _ _ _ (fun k_ => some k_ ≠ (.slice Ao17 t199.length co17 : Value).ownBlock) (fun _ => False) rfl rfl ?aO ?aR (fun _ _ h => h) (fun _ h => h.elim) ?aF ?aB ?aS ?aL ?_; (case aR => repeat (first | exact (Kd.R_reads' HO201.out).2.2 | (with_reducible refine Kd.C_alloc ?_ _) | (with_reducible refine Kd.C_drewN ?_ _) | (with_reducible refine Kd.C_drew ?_))); (case aB => exact (by repeat (first | (with_reducible first | exact HB.out | apply below_alloc | apply pw_below_drewN | apply below_drew1) | exact HB.out))); (case aF => exact (fun k_ hk => Kd.fresh' (Kd.R_lt (by (with_reducible repeat (first | apply Kd.R_alloc | apply Kd.R_drewN | apply Kd.R_drew)); exact HO201.out)) k_ hk)); (case aO => exact ((Kd.R_nil _ _ _ _ (fun k_ => some k_ ≠ (.slice Ao17 t199.length co17 : Value).ownBlock)))); (case aS => exact (below_size (by repeat (first | (with_reducible first | exact HB.out | apply below_alloc | apply pw_below_drewN | apply below_drew1) | exact HB.out)))); (case aL => have := LMc7.out; omega); intro v203 w16 ho hb hg hat; rw [← Ny202.out] at ho; have n0_ := Aside0.mk (Kd.R_after (Kd.R_apart_nil (by (with_reducible repeat (first | apply Kd.R_alloc | apply Kd.R_drewN | apply Kd.R_drew)); exact HO201.out)) hg hat); have n1_ := Aside0.mk (hb); have n2_ := Aside0.mk (ho); clear HO201; clear HB; have HO201 := n0_; have HB := n1_; have HO204 := n2_; clear n0_ n1_ n2_; clear ho hb hg hat) | ((with_reducible refine gate_builtin (b := .append) (xs := #[.tmp 26, .tmp 27]) rfl ?_); at_builtin; refine Kd.R_append_rows (Kd.int .u8) (w0 := w) w.heap.size rfl (.tmp 26) (.tmp 27) 22 5 (.int .u8 0) 1 rfl Try.underlying22 info5 rfl (by decide) (by omega) v203 y202 l1 _ _ _ (fun k_ => some k_ ≠ (.slice Ao17 t199.length co17 : Value).ownBlock) (fun _ => False) rfl rfl ?aO ?aR (fun _ _ h => h) (fun _ h => h.elim) ?aF ?aB ?aS ?aL ?_; (case aR => repeat (first | exact (Kd.C_below HR1.out HB.out) | (with_reducible refine Kd.C_alloc ?_ _) | (with_reducible refine Kd.C_drewN ?_ _) | (with_reducible refine Kd.C_drew ?_))); (case aB => exact (by repeat (first | (with_reducible first | exact HB.out | apply below_alloc | apply pw_below_drewN | apply below_drew1) | exact HB.out))); (case aF => exact (fun k_ hk => Kd.fresh' (Kd.R_lt (by (with_reducible repeat (first | apply Kd.R_alloc | apply Kd.R_drewN | apply Kd.R_drew)); exact HO201.out)) k_ hk)); (case aO => exact (by (with_reducible repeat (first | apply Kd.R_alloc | apply Kd.R_drewN | apply Kd.R_drew)); exact HO204.out)); (case aS => exact (below_size (by repeat (first | (with_reducible first | exact HB.out | apply below_alloc | apply pw_below_drewN | apply below_drew1) | exact HB.out)))); (case aL => have := LMc8.out; omega); intro v206 w18 ho hb hg hat; rw [← Ny205.out] at ho; have n0_ := Aside0.mk (Kd.R_after (ok := (fun _ => True)) (by (with_reducible repeat (first | apply Kd.R_alloc | apply Kd.R_drewN | apply Kd.R_drew)); exact HO201.out) hg hat); have n1_ := Aside0.mk (hb); have n2_ := Aside0.mk (ho); clear HO201; clear HB; clear HO204; have HO201 := n0_; have HB := n1_; have HO207 := n2_; clear n0_ n1_ n2_; clear ho hb hg hat) | ((with_reducible refine gate_callee (f := 6) rfl ?_); refine goesL_ (some 32) rfl rfl Try.func6 (by kernel_rfl) rfl #[.slice none 0 0, .int .i64 (wrap64 (a0))] rfl (by (try simp only [List.map_toArray, List.map_cons, List.map_nil]); first | done | rfl | (simp only [List.length_drop, List.length_take]; rfl)) ?_; (refine (leb_PutS.calls k _ _ ([] : List Int) (wrap64 (a0)) t208 _ ?side1 ?side2 A9.out).mono ?_); (case side1 => exact Kd.C_nil _ _); (case side2 => exact Nat.le_refl _); rintro e w19 ⟨v209, rfl, ho0, hb⟩; refine ⟨_, rfl, ?_⟩; have n0_ := Aside0.mk (Kd.R_elder' (by (with_reducible repeat (first | apply Kd.R_alloc | apply Kd.R_drewN | apply Kd.R_drew)); exact HO201.out) (Kd.R_base ho0) hb); have n1_ := Aside0.mk (Kd.R_elder' (by (with_reducible repeat (first | apply Kd.R_alloc | apply Kd.R_drewN | apply Kd.R_drew)); exact HO207.out) (Kd.R_base ho0) hb); have n2_ := Aside0.mk (Kd.R_lower (Kd.R_new' (Kd.R_new' ho0 (Kd.R_lt (by (with_reducible repeat (first | apply Kd.R_alloc | apply Kd.R_drewN | apply Kd.R_drew)); exact HO201.out))) (Kd.R_lt (by (with_reducible repeat (first | apply Kd.R_alloc | apply Kd.R_drewN | apply Kd.R_drew)); exact HO207.out))) (below_size (by repeat (first | (with_reducible first | exact HB.out | apply below_alloc | apply pw_below_drewN | apply below_drew1) | exact HB.out)))); have n3_ := Aside0.mk (below_step (by repeat (first | (with_reducible first | exact HB.out | apply below_alloc | apply pw_below_drewN | apply below_drew1) | exact HB.out)) hb); clear HO201; clear HO207; clear HB; have HO201 := n0_; have HO207 := n1_; have HO210 := n2_; have HB := n3_; clear n0_ n1_ n2_ n3_; (try clear hb); (try clear hb2); (try clear hk); (try clear hi); (try clear ho0); obtain ⟨Ao21, co21, eo21⟩ := Kd.R_slice HO210.out; subst eo21) | ((with_reducible refine gate_builtin (b := .append) (xs := #[.tmp 29, .tmp 32]) rfl ?_); at_builtin; refine Kd.R_append_rows (Kd.int .u8) (w0 := w) w.heap.size rfl (.tmp 29) (.tmp 32) 22 5 (.int .u8 0) 1 rfl Try.underlying22 info5 rfl (by decide) (by omega) (.slice none 0 0) ([] : List Int) t208 _ _ _ (fun k_ => some k_ ≠ (.slice Ao17 t199.length co17 : Value).ownBlock ∧ some k_ ≠ (v206 : Value).ownBlock ∧ some k_ ≠ (.slice Ao21 t208.length co21 : Value).ownBlock) (fun _ => False) rfl rfl ?aO ?aR (fun _ _ h => h) (fun _ h => h.elim) ?aF ?aB ?aS ?aL ?_; (case aR => repeat (first | exact (Kd.R_reads' HO210.out).2.2 | (with_reducible refine Kd.C_alloc ?_ _) | (with_reducible refine Kd.C_drewN ?_ _) | (with_reducible refine Kd.C_drew ?_))); (case aB => exact (by repeat (first | (with_reducible first | exact HB.out | apply below_alloc | apply pw_below_drewN | apply below_drew1) | exact HB.out))); (case aF => exact (fun k_ hk => ⟨Kd.fresh' (Kd.R_lt (by (with_reducible repeat (first | apply Kd.R_alloc | apply Kd.R_drewN | apply Kd.R_drew)); exact HO201.out)) k_ hk, Kd.fresh' (Kd.R_lt (by (with_reducible repeat (first | apply Kd.R_alloc | apply Kd.R_drewN | apply Kd.R_drew)); exact HO207.out)) k_ hk, Kd.fresh' (Kd.R_lt (by (with_reducible repeat (first | apply Kd.R_alloc | apply Kd.R_drewN | apply Kd.R_drew)); exact HO210.out)) k_ hk⟩)); (case aO => exact ((Kd.R_nil _ _ _ _ (fun k_ => some k_ ≠ (.slice Ao17 t199.length co17 : Value).ownBlock ∧ some k_ ≠ (v206 : Value).ownBlock ∧ some k_ ≠ (.slice Ao21 t208.length co21 : Value).ownBlock)))); (case aS => exact (below_size (by repeat (first | (with_reducible first | exact HB.out | apply below_alloc | apply pw_below_drewN | apply below_drew1) | exact HB.out)))); (case aL => have := LMc10.out; omega); intro v212 w20 ho hb hg hat; rw [← Ny211.out] at ho; have n0_ := Aside0.mk (Kd.R_after (Kd.R_apart_nil (by (with_reducible repeat (first | apply Kd.R_alloc | apply Kd.R_drewN | apply Kd.R_drew)); exact HO201.out)) hg hat); have n1_ := Aside0.mk (Kd.R_after (Kd.R_apart_nil (by (with_reducible repeat (first | apply Kd.R_alloc | apply Kd.R_drewN | apply Kd.R_drew)); exact HO207.out)) hg hat); have n2_ := Aside0.mk (Kd.R_after (Kd.R_apart_nil (by (with_reducible repeat (first | apply Kd.R_alloc | apply Kd.R_drewN | apply Kd.R_drew)); exact HO210.out)) hg hat); have n3_ := Aside0.mk (hb); have n4_ := Aside0.mk (ho); clear HO201; clear HO207; clear HO210; clear HB; have HO201 := n0_; have HO207 := n1_; have HO210 := n2_; have HB := n3_; have HO213 := n4_; clear n0_ n1_ n2_ n3_ n4_; clear ho hb hg hat) | ((with_reducible refine gate_builtin (b := .append) (xs := #[.tmp 33, .tmp 34]) rfl ?_); at_builtin; refine Kd.R_append_rows (Kd.int .u8) (w0 := w) w.heap.size rfl (.tmp 33) (.tmp 34) 22 5 (.int .u8 0) 1 rfl Try.underlying22 info5 rfl (by decide) (by omega) v212 y211 l1 _ _ _ (fun k_ => some k_ ≠ (.slice Ao17 t199.length co17 : Value).ownBlock ∧ some k_ ≠ (v206 : Value).ownBlock ∧ some k_ ≠ (.slice Ao21 t208.length co21 : Value).ownBlock) (fun _ => False) rfl rfl ?aO ?aR (fun _ _ h => h) (fun _ h => h.elim) ?aF ?aB ?aS ?aL ?_; (case aR => repeat (first | exact (Kd.C_below HR1.out HB.out) | (with_reducible refine Kd.C_alloc ?_ _) | (with_reducible refine Kd.C_drewN ?_ _) | (with_reducible refine Kd.C_drew ?_))); (case aB => exact (by repeat (first | (with_reducible first | exact HB.out | apply below_alloc | apply pw_below_drewN | apply below_drew1) | exact HB.out))); (case aF => exact (fun k_ hk => ⟨Kd.fresh' (Kd.R_lt (by (with_reducible repeat (first | apply Kd.R_alloc | apply Kd.R_drewN | apply Kd.R_drew)); exact HO201.out)) k_ hk, Kd.fresh' (Kd.R_lt (by (with_reducible repeat (first | apply Kd.R_alloc | apply Kd.R_drewN | apply Kd.R_drew)); exact HO207.out)) k_ hk, Kd.fresh' (Kd.R_lt (by (with_reducible repeat (first | apply Kd.R_alloc | apply Kd.R_drewN | apply Kd.R_drew)); exact HO210.out)) k_ hk⟩)); (case aO => exact (by (with_reducible repeat (first | apply Kd.R_alloc | apply Kd.R_drewN | apply Kd.R_drew)); exact HO213.out)); (case aS => exact (below_size (by repeat (first | (with_reducible first | exact HB.out | apply below_alloc | apply pw_below_drewN | apply below_drew1) | exact HB.out)))); (case aL => have := LMc11.out; omega); intro v215 w22 ho hb hg hat; rw [← Ny214.out] at ho; have n0_ := Aside0.mk (Kd.R_after (ok := (fun k_ => some k_ ≠ (v206 : Value).ownBlock ∧ some k_ ≠ (.slice Ao21 t208.length co21 : Value).ownBlock)) (by (with_reducible repeat (first | apply Kd.R_alloc | apply Kd.R_drewN | apply Kd.R_drew)); exact Kd.R_mono HO201.out (fun _ hk => ⟨⟨hk.1.1.2, hk.1.2⟩, hk.2⟩)) hg hat); have n1_ := Aside0.mk (Kd.R_after (ok := (fun k_ => some k_ ≠ (.slice Ao17 t199.length co17 : Value).ownBlock ∧ some k_ ≠ (.slice Ao21 t208.length co21 : Value).ownBlock)) (by (with_reducible repeat (first | apply Kd.R_alloc | apply Kd.R_drewN | apply Kd.R_drew)); exact HO207.out) hg hat); have n2_ := Aside0.mk (Kd.R_after (ok := (fun k_ => some k_ ≠ (.slice Ao17 t199.length co17 : Value).ownBlock ∧ some k_ ≠ (v206 : Value).ownBlock)) (by (with_reducible repeat (first | apply Kd.R_alloc | apply Kd.R_drewN | apply Kd.R_drew)); exact Kd.R_mono HO210.out (fun _ hk => ⟨⟨hk.1.1.2, hk.1.2⟩, hk.2⟩)) hg hat); have n3_ := Aside0.mk (hb); have n4_ := Aside0.mk (ho); clear HO201; clear HO207; clear HO210; clear HB; clear HO213; have HO201 := n0_; have HO207 := n1_; have HO210 := n2_; have HB := n3_; have HO216 := n4_; clear n0_ n1_ n2_ n3_ n4_; clear ho hb hg hat; obtain ⟨Ao23, co23, eo23⟩ := Kd.R_slice HO207.out; subst eo23) | ((with_reducible refine gate_callee (f := 13) rfl ?_); refine goesL_ (some 38) rfl rfl Try.func13 (by kernel_rfl) rfl #[.slice Ao23 y205.length co23, .int .i64 64] rfl (by (try simp only [List.map_toArray, List.map_cons, List.map_nil]); first | done | rfl | (simp only [List.length_drop, List.length_take]; rfl)) ?_; (with_reducible refine (leb_TakeU.calls k _ _ y205 64 t217 t218 t219 _ ?side1 ?side2 A12.out).mono ?_); (case side1 => repeat (first | exact (Kd.R_reads' HO207.out).2.2 | (with_reducible refine Kd.C_alloc ?_ _) | (with_reducible refine Kd.C_drewN ?_ _) | (with_reducible refine Kd.C_drew ?_))); (case side2 => exact (Kd.R_reads' HO207.out).2.1); rintro e w' ⟨rfl, ⟨nd, rfl⟩⟩; refine ⟨_, rfl, ?_⟩; (try simp only [errW_none, errW_some]); obtain ⟨Ao24, co24, eo24⟩ := Kd.R_slice HO216.out; subst eo24) | ((with_reducible refine gate_callee (f := 14) rfl ?_); refine goesL_ (some 44) rfl rfl Try.func14 (by kernel_rfl) rfl #[.slice Ao24 y214.length co24, .int .i64 64] rfl (by (try simp only [List.map_toArray, List.map_cons, List.map_nil]); first | done | rfl | (simp only [List.length_drop, List.length_take]; rfl)) ?_; (with_reducible refine (leb_TakeS.calls k _ _ y214 64 t220 t221 t222 _ ?side1 ?side2 A13.out).mono ?_); (case side1 => repeat (first | exact (Kd.R_reads' HO216.out).2.2 | (with_reducible refine Kd.C_alloc ?_ _) | (with_reducible refine Kd.C_drewN ?_ _) | (with_reducible refine Kd.C_drew ?_))); (case side2 => exact (Kd.R_reads' HO216.out).2.1); rintro e w' ⟨rfl, ⟨nd, rfl⟩⟩; refine ⟨_, rfl, ?_⟩; (try simp only [errW_none, errW_some])))
            (try simp only [Act.put, List.setIfInBounds_toArray, List.set_cons_zero, List.set_cons_succ])
            go_cut [77] (fun v77 wc => ∃ (kq : Nat) (x77_13 : Bool), v77 = .bool x77_13 ∧ Aside0 (mandrellaw01_LebBack.j0 kq a0 y205 y214 x77_13 = some r) ∧ Aside0 (kq ≤ k) ∧ Aside0 (Kd.R (Kd.int .u8) 5 wc w.heap.size (fun k_ => some k_ ≠ ((.slice Ao24 y214.length co24) : Value).ownBlock) (.slice Ao23 y205.length co23) y205) ∧ Aside0 (Kd.R (Kd.int .u8) 5 wc w.heap.size (fun k_ => some k_ ≠ ((.slice Ao23 y205.length co23) : Value).ownBlock) (.slice Ao24 y214.length co24) y214) ∧ Aside0 (Below w.heap.size w wc))
            case first =>
              have H := HC14.out
              clear HC14
              rcases t219 with _ | q223
              · have H1 : (if t222.isNone = true then (if t217 = a0 then (if t220 = (wrap64 (a0)) then ((leb_SizeU.f a0).bind fun t225 => (if t218 = t225 then ((leb_SizeS.f (wrap64 (a0))).bind fun t226 => (mandrellaw01_LebBack.j0 k a0 y205 y214 (t221 != t226))) else (mandrellaw01_LebBack.j0 k a0 y205 y214 true))) else (mandrellaw01_LebBack.j0 k a0 y205 y214 true)) else (mandrellaw01_LebBack.j0 k a0 y205 y214 true)) else (mandrellaw01_LebBack.j0 k a0 y205 y214 true)) = some r := by rw [if_pos (show (none : Option Int).isNone = true by rfl)] at H; exact H
                clear H
                have H := H1
                clear H1
                try simp only [errW_none, errW_some]
                rcases t222 with _ | q224
                · have H1 : (if t217 = a0 then (if t220 = (wrap64 (a0)) then ((leb_SizeU.f a0).bind fun t225 => (if t218 = t225 then ((leb_SizeS.f (wrap64 (a0))).bind fun t226 => (mandrellaw01_LebBack.j0 k a0 y205 y214 (t221 != t226))) else (mandrellaw01_LebBack.j0 k a0 y205 y214 true))) else (mandrellaw01_LebBack.j0 k a0 y205 y214 true)) else (mandrellaw01_LebBack.j0 k a0 y205 y214 true)) = some r := by rw [if_pos (show (none : Option Int).isNone = true by rfl)] at H; exact H
                  clear H
                  have H := H1
                  clear H1
                  try simp only [errW_none, errW_some]
                  by_cases c25 : t217 = a0
                  · rw [if_pos c25] at H
                    have c25b0 : (t217 == a0) = true := beq_iff_eq.mpr c25
                    have c25b1 : (t217 != a0) = false := bne_eq_false_iff_eq.mpr c25
                    clear c25
                    (first | rw [c25b0] | (simp only [i64_w, i32_w]; rw [c25b0]) | skip)
                    by_cases c26 : t220 = (wrap64 (a0))
                    · rw [if_pos c26] at H
                      have c26b0 : (t220 == (wrap64 (a0))) = true := beq_iff_eq.mpr c26
                      have c26b1 : (t220 != (wrap64 (a0))) = false := bne_eq_false_iff_eq.mpr c26
                      clear c26
                      replace H := Option.bind_eq_some_iff.mp H
                      obtain ⟨t225, A270, H⟩ := H
                      replace H : (if t218 = t225 then ((leb_SizeS.f (wrap64 (a0))).bind fun t226 => (mandrellaw01_LebBack.j0 k a0 y205 y214 (t221 != t226))) else (mandrellaw01_LebBack.j0 k a0 y205 y214 true)) = some r := H
                      have A27 := Aside0.mk A270
                      clear A270
                      by_cases c28 : t218 = t225
                      · rw [if_pos c28] at H
                        have c28b0 : (t218 == t225) = true := beq_iff_eq.mpr c28
                        have c28b1 : (t218 != t225) = false := bne_eq_false_iff_eq.mpr c28
                        clear c28
                        replace H := Option.bind_eq_some_iff.mp H
                        obtain ⟨t226, A290, H⟩ := H
                        replace H : (mandrellaw01_LebBack.j0 k a0 y205 y214 (t221 != t226)) = some r := H
                        have A29 := Aside0.mk A290
                        clear A290
                        have H' := Aside0.mk H
                        clear H
                        go_wp2_with (first | (go_at_call 7; (with_reducible refine (leb_SizeU.calls a0 t225 _ A27.out).mono ?_); rintro e w' ⟨rfl, ⟨nd, rfl⟩⟩) | (go_at_call 12; (with_reducible refine (leb_SizeS.calls (wrap64 (a0)) t226 _ A29.out).mono ?_); rintro e w' ⟨rfl, ⟨nd, rfl⟩⟩))
                        go_meet
                        case rel => exact ⟨_, ((t221 != t226)), (by first | rfl | (simp; done) | (simp [*]; done)), H', ⟨by first | omega | exact Nat.le_refl _⟩, ⟨by (with_reducible repeat (first | apply Kd.R_alloc | apply Kd.R_drewN | apply Kd.R_drew)); exact Kd.R_mono HO207.out (fun _ hk => hk.2)⟩, ⟨by (with_reducible repeat (first | apply Kd.R_alloc | apply Kd.R_drewN | apply Kd.R_drew)); exact Kd.R_mono HO216.out (fun _ hk => hk.2.1)⟩, ⟨by repeat (first | (with_reducible first | exact HB.out | apply below_alloc | apply pw_below_drewN | apply below_drew1) | exact HB.out)⟩⟩
                      · rw [if_neg c28] at H
                        have c28b0 : (t218 == t225) = false := beq_eq_false_iff_ne.mpr c28
                        have c28b1 : (t218 != t225) = true := bne_iff_ne.mpr c28
                        have H' := Aside0.mk H
                        clear H
                        go_wp2_with (first | (go_at_call 7; (with_reducible refine (leb_SizeU.calls a0 t225 _ A27.out).mono ?_); rintro e w' ⟨rfl, ⟨nd, rfl⟩⟩))
                        go_meet
                        case rel => exact ⟨_, (true), (by first | rfl | (simp; done) | (simp [*]; done)), H', ⟨by first | omega | exact Nat.le_refl _⟩, ⟨by (with_reducible repeat (first | apply Kd.R_alloc | apply Kd.R_drewN | apply Kd.R_drew)); exact Kd.R_mono HO207.out (fun _ hk => hk.2)⟩, ⟨by (with_reducible repeat (first | apply Kd.R_alloc | apply Kd.R_drewN | apply Kd.R_drew)); exact Kd.R_mono HO216.out (fun _ hk => hk.2.1)⟩, ⟨by repeat (first | (with_reducible first | exact HB.out | apply below_alloc | apply pw_below_drewN | apply below_drew1) | exact HB.out)⟩⟩
                    · rw [if_neg c26] at H
                      have c26b0 : (t220 == (wrap64 (a0))) = false := beq_eq_false_iff_ne.mpr c26
                      have c26b1 : (t220 != (wrap64 (a0))) = true := bne_iff_ne.mpr c26
                      have H' := Aside0.mk H
                      clear H
                      go_wp2
                      go_meet
                      case rel => exact ⟨_, (true), (by first | rfl | (simp; done) | (simp [*]; done)), H', ⟨by first | omega | exact Nat.le_refl _⟩, ⟨by (with_reducible repeat (first | apply Kd.R_alloc | apply Kd.R_drewN | apply Kd.R_drew)); exact Kd.R_mono HO207.out (fun _ hk => hk.2)⟩, ⟨by (with_reducible repeat (first | apply Kd.R_alloc | apply Kd.R_drewN | apply Kd.R_drew)); exact Kd.R_mono HO216.out (fun _ hk => hk.2.1)⟩, ⟨by repeat (first | (with_reducible first | exact HB.out | apply below_alloc | apply pw_below_drewN | apply below_drew1) | exact HB.out)⟩⟩
                  · rw [if_neg c25] at H
                    have c25b0 : (t217 == a0) = false := beq_eq_false_iff_ne.mpr c25
                    have c25b1 : (t217 != a0) = true := bne_iff_ne.mpr c25
                    (first | rw [c25b0] | (simp only [i64_w, i32_w]; rw [c25b0]) | skip)
                    have H' := Aside0.mk H
                    clear H
                    go_wp2
                    go_meet
                    case rel => exact ⟨_, (true), (by first | rfl | (simp; done) | (simp [*]; done)), H', ⟨by first | omega | exact Nat.le_refl _⟩, ⟨by (with_reducible repeat (first | apply Kd.R_alloc | apply Kd.R_drewN | apply Kd.R_drew)); exact Kd.R_mono HO207.out (fun _ hk => hk.2)⟩, ⟨by (with_reducible repeat (first | apply Kd.R_alloc | apply Kd.R_drewN | apply Kd.R_drew)); exact Kd.R_mono HO216.out (fun _ hk => hk.2.1)⟩, ⟨by repeat (first | (with_reducible first | exact HB.out | apply below_alloc | apply pw_below_drewN | apply below_drew1) | exact HB.out)⟩⟩
                · have H1 : (mandrellaw01_LebBack.j0 k a0 y205 y214 true) = some r := by rw [if_neg (show ¬ (some q224).isNone = true by simp)] at H; exact H
                  clear H
                  have H := H1
                  clear H1
                  try simp only [errW_none, errW_some]
                  have H' := Aside0.mk H
                  clear H
                  go_wp2
                  go_meet
                  case rel => exact ⟨_, (true), (by first | rfl | (simp; done) | (simp [*]; done)), H', ⟨by first | omega | exact Nat.le_refl _⟩, ⟨by (with_reducible repeat (first | apply Kd.R_alloc | apply Kd.R_drewN | apply Kd.R_drew)); exact Kd.R_mono HO207.out (fun _ hk => hk.2)⟩, ⟨by (with_reducible repeat (first | apply Kd.R_alloc | apply Kd.R_drewN | apply Kd.R_drew)); exact Kd.R_mono HO216.out (fun _ hk => hk.2.1)⟩, ⟨by repeat (first | (with_reducible first | exact HB.out | apply below_alloc | apply pw_below_drewN | apply below_drew1) | exact HB.out)⟩⟩
              · have H1 : (mandrellaw01_LebBack.j0 k a0 y205 y214 true) = some r := by rw [if_neg (show ¬ (some q223).isNone = true by simp)] at H; exact H
                clear H
                have H := H1
                clear H1
                try simp only [errW_none, errW_some]
                have H' := Aside0.mk H
                clear H
                go_wp2
                go_meet
                case rel => exact ⟨_, (true), (by first | rfl | (simp; done) | (simp [*]; done)), H', ⟨by first | omega | exact Nat.le_refl _⟩, ⟨by (with_reducible repeat (first | apply Kd.R_alloc | apply Kd.R_drewN | apply Kd.R_drew)); exact Kd.R_mono HO207.out (fun _ hk => hk.2)⟩, ⟨by (with_reducible repeat (first | apply Kd.R_alloc | apply Kd.R_drewN | apply Kd.R_drew)); exact Kd.R_mono HO216.out (fun _ hk => hk.2.1)⟩, ⟨by repeat (first | (with_reducible first | exact HB.out | apply below_alloc | apply pw_below_drewN | apply below_drew1) | exact HB.out)⟩⟩
            case rest =>
              clear HC14
              try clear c1
              try clear c2
              try clear p2
              try clear q2
              try clear c3
              try clear c3b0
              try clear c3b1
              try clear c5
              try clear c6
              try clear p6
              try clear c7
              try clear c8
              try clear c10
              try clear c11
              try clear c13
              try clear c14
              try clear q22
              try clear c25
              try clear c25b0
              try clear c25b1
              try clear c26
              try clear c26b0
              try clear c26b1
              try clear c28
              try clear c28b0
              try clear c28b1
              try clear q223
              try clear q224
              obtain ⟨kq, x77_13, rfl, HA, HJ13, HO_5, HO_6, HB⟩ := hcut
              cases kq with
              | zero => exact absurd HA.out (by simp [mandrellaw01_LebBack.j0])
              | succ kj13 =>
                have H := HA.out
                clear HA
                simp only [mandrellaw01_LebBack.j0] at H
                by_cases c30 : x77_13 = true
                · subst c30
                  have H1 : (some false) = some r := by rw [if_pos rfl] at H; exact H
                  clear H
                  have H := H1
                  clear H1
                  obtain rfl := Option.some.inj H
                  go_wp2
                  go_ret
                  exact ⟨by first | rfl | (simp [errW_none, errW_some] <;> rfl) | (simp [*, errW_none, errW_some] <;> rfl), by repeat (first | (with_reducible first | exact HB.out | apply below_alloc | apply pw_below_drewN | apply below_drew1) | exact HB.out)⟩
                · replace c30 := Bool.eq_false_iff.mpr c30
                  subst c30
                  have H1 : ((leb_TakeU.f kj13 y205 32).bind fun bt227 => ((leb_TakeS.f kj13 y214 32).bind fun bt230 => (if bt227.2.2.isNone = true then (if (true == (decide (a0 < 4294967296))) = true then (if bt227.1 = a0 then (if bt230.2.2.isNone = true then (if (wrap64 (a0)) ≥ (-2147483648) then (if (true == (decide ((wrap64 (a0)) < 2147483648))) = true then (if bt230.1 = (wrap64 (a0)) then ((mandrellaw01_sure.f kj13).bind fun t235 => (some t235)) else (some false)) else (some false)) else (if (true == false) = true then (if bt230.1 = (wrap64 (a0)) then ((mandrellaw01_sure.f kj13).bind fun t236 => (some t236)) else (some false)) else (some false))) else (if (wrap64 (a0)) ≥ (-2147483648) then (if (false == (decide ((wrap64 (a0)) < 2147483648))) = true then ((mandrellaw01_sure.f kj13).bind fun t237 => (some t237)) else (some false)) else (if (false == false) = true then ((mandrellaw01_sure.f kj13).bind fun t238 => (some t238)) else (some false)))) else (some false)) else (some false)) else (if (false == (decide (a0 < 4294967296))) = true then (if bt230.2.2.isNone = true then (if (wrap64 (a0)) ≥ (-2147483648) then (if (true == (decide ((wrap64 (a0)) < 2147483648))) = true then (if bt230.1 = (wrap64 (a0)) then ((mandrellaw01_sure.f kj13).bind fun t240 => (some t240)) else (some false)) else (some false)) else (if (true == false) = true then (if bt230.1 = (wrap64 (a0)) then ((mandrellaw01_sure.f kj13).bind fun t241 => (some t241)) else (some false)) else (some false))) else (if (wrap64 (a0)) ≥ (-2147483648) then (if (false == (decide ((wrap64 (a0)) < 2147483648))) = true then ((mandrellaw01_sure.f kj13).bind fun t242 => (some t242)) else (some false)) else (if (false == false) = true then ((mandrellaw01_sure.f kj13).bind fun t243 => (some t243)) else (some false)))) else (some false))))) = some r := by rw [if_neg (show ¬ (false = true) by decide)] at H; exact H
                  clear H
                  have H := H1
                  clear H1
                  replace H := Option.bind_eq_some_iff.mp H
                  obtain ⟨⟨t227, t228, t229⟩, A310, H⟩ := H
                  replace H : ((leb_TakeS.f kj13 y214 32).bind fun bt230 => (if t229.isNone = true then (if (true == (decide (a0 < 4294967296))) = true then (if t227 = a0 then (if bt230.2.2.isNone = true then (if (wrap64 (a0)) ≥ (-2147483648) then (if (true == (decide ((wrap64 (a0)) < 2147483648))) = true then (if bt230.1 = (wrap64 (a0)) then ((mandrellaw01_sure.f kj13).bind fun t235 => (some t235)) else (some false)) else (some false)) else (if (true == false) = true then (if bt230.1 = (wrap64 (a0)) then ((mandrellaw01_sure.f kj13).bind fun t236 => (some t236)) else (some false)) else (some false))) else (if (wrap64 (a0)) ≥ (-2147483648) then (if (false == (decide ((wrap64 (a0)) < 2147483648))) = true then ((mandrellaw01_sure.f kj13).bind fun t237 => (some t237)) else (some false)) else (if (false == false) = true then ((mandrellaw01_sure.f kj13).bind fun t238 => (some t238)) else (some false)))) else (some false)) else (some false)) else (if (false == (decide (a0 < 4294967296))) = true then (if bt230.2.2.isNone = true then (if (wrap64 (a0)) ≥ (-2147483648) then (if (true == (decide ((wrap64 (a0)) < 2147483648))) = true then (if bt230.1 = (wrap64 (a0)) then ((mandrellaw01_sure.f kj13).bind fun t240 => (some t240)) else (some false)) else (some false)) else (if (true == false) = true then (if bt230.1 = (wrap64 (a0)) then ((mandrellaw01_sure.f kj13).bind fun t241 => (some t241)) else (some false)) else (some false))) else (if (wrap64 (a0)) ≥ (-2147483648) then (if (false == (decide ((wrap64 (a0)) < 2147483648))) = true then ((mandrellaw01_sure.f kj13).bind fun t242 => (some t242)) else (some false)) else (if (false == false) = true then ((mandrellaw01_sure.f kj13).bind fun t243 => (some t243)) else (some false)))) else (some false)))) = some r := H
                  have A31 := Aside0.mk A310
                  clear A310
                  replace H := Option.bind_eq_some_iff.mp H
                  obtain ⟨⟨t230, t231, t232⟩, A320, H⟩ := H
                  replace H : (if t229.isNone = true then (if (true == (decide (a0 < 4294967296))) = true then (if t227 = a0 then (if t232.isNone = true then (if (wrap64 (a0)) ≥ (-2147483648) then (if (true == (decide ((wrap64 (a0)) < 2147483648))) = true then (if t230 = (wrap64 (a0)) then ((mandrellaw01_sure.f kj13).bind fun t235 => (some t235)) else (some false)) else (some false)) else (if (true == false) = true then (if t230 = (wrap64 (a0)) then ((mandrellaw01_sure.f kj13).bind fun t236 => (some t236)) else (some false)) else (some false))) else (if (wrap64 (a0)) ≥ (-2147483648) then (if (false == (decide ((wrap64 (a0)) < 2147483648))) = true then ((mandrellaw01_sure.f kj13).bind fun t237 => (some t237)) else (some false)) else (if (false == false) = true then ((mandrellaw01_sure.f kj13).bind fun t238 => (some t238)) else (some false)))) else (some false)) else (some false)) else (if (false == (decide (a0 < 4294967296))) = true then (if t232.isNone = true then (if (wrap64 (a0)) ≥ (-2147483648) then (if (true == (decide ((wrap64 (a0)) < 2147483648))) = true then (if t230 = (wrap64 (a0)) then ((mandrellaw01_sure.f kj13).bind fun t240 => (some t240)) else (some false)) else (some false)) else (if (true == false) = true then (if t230 = (wrap64 (a0)) then ((mandrellaw01_sure.f kj13).bind fun t241 => (some t241)) else (some false)) else (some false))) else (if (wrap64 (a0)) ≥ (-2147483648) then (if (false == (decide ((wrap64 (a0)) < 2147483648))) = true then ((mandrellaw01_sure.f kj13).bind fun t242 => (some t242)) else (some false)) else (if (false == false) = true then ((mandrellaw01_sure.f kj13).bind fun t243 => (some t243)) else (some false)))) else (some false))) = some r := H
                  have A32 := Aside0.mk A320
                  clear A320
                  rcases t229 with _ | q233
                  · have H1 : (if (true == (decide (a0 < 4294967296))) = true then (if t227 = a0 then (if t232.isNone = true then (if (wrap64 (a0)) ≥ (-2147483648) then (if (true == (decide ((wrap64 (a0)) < 2147483648))) = true then (if t230 = (wrap64 (a0)) then ((mandrellaw01_sure.f kj13).bind fun t235 => (some t235)) else (some false)) else (some false)) else (if (true == false) = true then (if t230 = (wrap64 (a0)) then ((mandrellaw01_sure.f kj13).bind fun t236 => (some t236)) else (some false)) else (some false))) else (if (wrap64 (a0)) ≥ (-2147483648) then (if (false == (decide ((wrap64 (a0)) < 2147483648))) = true then ((mandrellaw01_sure.f kj13).bind fun t237 => (some t237)) else (some false)) else (if (false == false) = true then ((mandrellaw01_sure.f kj13).bind fun t238 => (some t238)) else (some false)))) else (some false)) else (some false)) = some r := by rw [if_pos (show (none : Option Int).isNone = true by rfl)] at H; exact H
                    clear H
                    have H := H1
                    clear H1
                    try simp only [errW_none, errW_some]
                    by_cases c33 : (true == (decide (a0 < 4294967296))) = true
                    · rw [if_pos c33] at H
                      have c33b0 : (true == (decide (a0 < 4294967296))) = true := c33
                      (try (have c33b1 : decide (true = (decide (a0 < 4294967296))) = true := by simpa using c33))
                      (try (have c33b2 : (true == (decide (a0 < 4294967296))) = true := by simpa using c33))
                      clear c33
                      by_cases c34 : t227 = a0
                      · rw [if_pos c34] at H
                        have c34b0 : (t227 == a0) = true := beq_iff_eq.mpr c34
                        have c34b1 : (t227 != a0) = false := bne_eq_false_iff_eq.mpr c34
                        clear c34
                        rcases t232 with _ | q234
                        · have H1 : (if (wrap64 (a0)) ≥ (-2147483648) then (if (true == (decide ((wrap64 (a0)) < 2147483648))) = true then (if t230 = (wrap64 (a0)) then ((mandrellaw01_sure.f kj13).bind fun t235 => (some t235)) else (some false)) else (some false)) else (if (true == false) = true then (if t230 = (wrap64 (a0)) then ((mandrellaw01_sure.f kj13).bind fun t236 => (some t236)) else (some false)) else (some false))) = some r := by rw [if_pos (show (none : Option Int).isNone = true by rfl)] at H; exact H
                          clear H
                          have H := H1
                          clear H1
                          try simp only [errW_none, errW_some]
                          by_cases c35 : (wrap64 (a0)) ≥ (-2147483648)
                          · rw [if_pos c35] at H
                            have c35b0 : decide ((-2147483648) ≤ (wrap64 (a0))) = true := decide_eq_true c35
                            clear c35
                            by_cases c36 : (true == (decide ((wrap64 (a0)) < 2147483648))) = true
                            · rw [if_pos c36] at H
                              have c36b0 : (true == (decide ((wrap64 (a0)) < 2147483648))) = true := c36
                              (try (have c36b1 : decide (true = (decide ((wrap64 (a0)) < 2147483648))) = true := by simpa using c36))
                              (try (have c36b2 : (true == (decide ((wrap64 (a0)) < 2147483648))) = true := by simpa using c36))
                              clear c36
                              by_cases c37 : t230 = (wrap64 (a0))
                              · rw [if_pos c37] at H
                                have c37b0 : (t230 == (wrap64 (a0))) = true := beq_iff_eq.mpr c37
                                have c37b1 : (t230 != (wrap64 (a0))) = false := bne_eq_false_iff_eq.mpr c37
                                clear c37
                                replace H := Option.bind_eq_some_iff.mp H
                                obtain ⟨t235, A380, H⟩ := H
                                replace H : (some t235) = some r := H
                                have A38 := Aside0.mk A380
                                clear A380
                                obtain rfl := Option.some.inj H
                                go_wp2_with (first | ((with_reducible refine gate_callee (f := 13) rfl ?_); refine goesL_ (some 80) rfl rfl Try.func13 (by kernel_rfl) rfl #[.slice Ao23 y205.length co23, .int .i64 32] rfl (by (try simp only [List.map_toArray, List.map_cons, List.map_nil]); first | done | rfl | (simp only [List.length_drop, List.length_take]; rfl)) ?_; (with_reducible refine (leb_TakeU.calls kj13 _ _ y205 32 t227 t228 none _ ?side1 ?side2 A31.out).mono ?_); (case side1 => repeat (first | exact (Kd.R_reads' HO_5.out).2.2 | (with_reducible refine Kd.C_alloc ?_ _) | (with_reducible refine Kd.C_drewN ?_ _) | (with_reducible refine Kd.C_drew ?_))); (case side2 => exact (Kd.R_reads' HO_5.out).2.1); rintro e w' ⟨rfl, ⟨nd, rfl⟩⟩; refine ⟨_, rfl, ?_⟩; (try simp only [errW_none, errW_some])) | ((with_reducible refine gate_callee (f := 14) rfl ?_); refine goesL_ (some 86) rfl rfl Try.func14 (by kernel_rfl) rfl #[.slice Ao24 y214.length co24, .int .i64 32] rfl (by (try simp only [List.map_toArray, List.map_cons, List.map_nil]); first | done | rfl | (simp only [List.length_drop, List.length_take]; rfl)) ?_; (with_reducible refine (leb_TakeS.calls kj13 _ _ y214 32 t230 t231 none _ ?side1 ?side2 A32.out).mono ?_); (case side1 => repeat (first | exact (Kd.R_reads' HO_6.out).2.2 | (with_reducible refine Kd.C_alloc ?_ _) | (with_reducible refine Kd.C_drewN ?_ _) | (with_reducible refine Kd.C_drew ?_))); (case side2 => exact (Kd.R_reads' HO_6.out).2.1); rintro e w' ⟨rfl, ⟨nd, rfl⟩⟩; refine ⟨_, rfl, ?_⟩; (try simp only [errW_none, errW_some])) | (go_at_call 8; (with_reducible refine (mandrellaw01_sure.calls kj13  t235 _ A38.out).mono ?_); rintro e w39 ⟨rfl, hb⟩; have n0_ := Aside0.mk (Kd.R_below (by (with_reducible repeat (first | apply Kd.R_alloc | apply Kd.R_drewN | apply Kd.R_drew)); exact HO_5.out) hb); have n1_ := Aside0.mk (Kd.R_below (by (with_reducible repeat (first | apply Kd.R_alloc | apply Kd.R_drewN | apply Kd.R_drew)); exact HO_6.out) hb); have n2_ := Aside0.mk (below_step (by repeat (first | (with_reducible first | exact HB.out | apply below_alloc | apply pw_below_drewN | apply below_drew1) | exact HB.out)) hb); clear HO_5; clear HO_6; clear HB; have HO_5 := n0_; have HO_6 := n1_; have HB := n2_; clear n0_ n1_ n2_; (try clear hb); (try clear hb2); (try clear hk); (try clear hi)))
                                go_ret
                                exact ⟨by first | rfl | (simp [errW_none, errW_some] <;> rfl) | (simp [*, errW_none, errW_some] <;> rfl), by repeat (first | (with_reducible first | exact HB.out | apply below_alloc | apply pw_below_drewN | apply below_drew1) | exact HB.out)⟩
                              · rw [if_neg c37] at H
                                have c37b0 : (t230 == (wrap64 (a0))) = false := beq_eq_false_iff_ne.mpr c37
                                have c37b1 : (t230 != (wrap64 (a0))) = true := bne_iff_ne.mpr c37
                                obtain rfl := Option.some.inj H
                                go_wp2_with (first | ((with_reducible refine gate_callee (f := 13) rfl ?_); refine goesL_ (some 80) rfl rfl Try.func13 (by kernel_rfl) rfl #[.slice Ao23 y205.length co23, .int .i64 32] rfl (by (try simp only [List.map_toArray, List.map_cons, List.map_nil]); first | done | rfl | (simp only [List.length_drop, List.length_take]; rfl)) ?_; (with_reducible refine (leb_TakeU.calls kj13 _ _ y205 32 t227 t228 none _ ?side1 ?side2 A31.out).mono ?_); (case side1 => repeat (first | exact (Kd.R_reads' HO_5.out).2.2 | (with_reducible refine Kd.C_alloc ?_ _) | (with_reducible refine Kd.C_drewN ?_ _) | (with_reducible refine Kd.C_drew ?_))); (case side2 => exact (Kd.R_reads' HO_5.out).2.1); rintro e w' ⟨rfl, ⟨nd, rfl⟩⟩; refine ⟨_, rfl, ?_⟩; (try simp only [errW_none, errW_some])) | ((with_reducible refine gate_callee (f := 14) rfl ?_); refine goesL_ (some 86) rfl rfl Try.func14 (by kernel_rfl) rfl #[.slice Ao24 y214.length co24, .int .i64 32] rfl (by (try simp only [List.map_toArray, List.map_cons, List.map_nil]); first | done | rfl | (simp only [List.length_drop, List.length_take]; rfl)) ?_; (with_reducible refine (leb_TakeS.calls kj13 _ _ y214 32 t230 t231 none _ ?side1 ?side2 A32.out).mono ?_); (case side1 => repeat (first | exact (Kd.R_reads' HO_6.out).2.2 | (with_reducible refine Kd.C_alloc ?_ _) | (with_reducible refine Kd.C_drewN ?_ _) | (with_reducible refine Kd.C_drew ?_))); (case side2 => exact (Kd.R_reads' HO_6.out).2.1); rintro e w' ⟨rfl, ⟨nd, rfl⟩⟩; refine ⟨_, rfl, ?_⟩; (try simp only [errW_none, errW_some])))
                                go_ret
                                exact ⟨by first | rfl | (simp [errW_none, errW_some] <;> rfl) | (simp [*, errW_none, errW_some] <;> rfl), by repeat (first | (with_reducible first | exact HB.out | apply below_alloc | apply pw_below_drewN | apply below_drew1) | exact HB.out)⟩
                            · rw [if_neg c36] at H
                              have c36b0 : (true == (decide ((wrap64 (a0)) < 2147483648))) = false := by simpa using c36
                              (try (have c36b1 : decide (true = (decide ((wrap64 (a0)) < 2147483648))) = false := by simpa using c36))
                              (try (have c36b2 : (true == (decide ((wrap64 (a0)) < 2147483648))) = false := by simpa using c36))
                              (try (have c36b3 : ¬ (true = (decide ((wrap64 (a0)) < 2147483648))) := by simpa using c36))
                              clear c36
                              obtain rfl := Option.some.inj H
                              go_wp2_with (first | ((with_reducible refine gate_callee (f := 13) rfl ?_); refine goesL_ (some 80) rfl rfl Try.func13 (by kernel_rfl) rfl #[.slice Ao23 y205.length co23, .int .i64 32] rfl (by (try simp only [List.map_toArray, List.map_cons, List.map_nil]); first | done | rfl | (simp only [List.length_drop, List.length_take]; rfl)) ?_; (with_reducible refine (leb_TakeU.calls kj13 _ _ y205 32 t227 t228 none _ ?side1 ?side2 A31.out).mono ?_); (case side1 => repeat (first | exact (Kd.R_reads' HO_5.out).2.2 | (with_reducible refine Kd.C_alloc ?_ _) | (with_reducible refine Kd.C_drewN ?_ _) | (with_reducible refine Kd.C_drew ?_))); (case side2 => exact (Kd.R_reads' HO_5.out).2.1); rintro e w' ⟨rfl, ⟨nd, rfl⟩⟩; refine ⟨_, rfl, ?_⟩; (try simp only [errW_none, errW_some])) | ((with_reducible refine gate_callee (f := 14) rfl ?_); refine goesL_ (some 86) rfl rfl Try.func14 (by kernel_rfl) rfl #[.slice Ao24 y214.length co24, .int .i64 32] rfl (by (try simp only [List.map_toArray, List.map_cons, List.map_nil]); first | done | rfl | (simp only [List.length_drop, List.length_take]; rfl)) ?_; (with_reducible refine (leb_TakeS.calls kj13 _ _ y214 32 t230 t231 none _ ?side1 ?side2 A32.out).mono ?_); (case side1 => repeat (first | exact (Kd.R_reads' HO_6.out).2.2 | (with_reducible refine Kd.C_alloc ?_ _) | (with_reducible refine Kd.C_drewN ?_ _) | (with_reducible refine Kd.C_drew ?_))); (case side2 => exact (Kd.R_reads' HO_6.out).2.1); rintro e w' ⟨rfl, ⟨nd, rfl⟩⟩; refine ⟨_, rfl, ?_⟩; (try simp only [errW_none, errW_some])))
                              go_ret
                              exact ⟨by first | rfl | (simp [errW_none, errW_some] <;> rfl) | (simp [*, errW_none, errW_some] <;> rfl), by repeat (first | (with_reducible first | exact HB.out | apply below_alloc | apply pw_below_drewN | apply below_drew1) | exact HB.out)⟩
                          · rw [if_neg c35] at H
                            have c35b0 : decide ((-2147483648) ≤ (wrap64 (a0))) = false := decide_eq_false c35
                            clear c35
                            have H1 : (some false) = some r := by rw [if_neg (show ¬ ((true == false) = true) by decide)] at H; exact H
                            clear H
                            have H := H1
                            clear H1
                            obtain rfl := Option.some.inj H
                            go_wp2_with (first | ((with_reducible refine gate_callee (f := 13) rfl ?_); refine goesL_ (some 80) rfl rfl Try.func13 (by kernel_rfl) rfl #[.slice Ao23 y205.length co23, .int .i64 32] rfl (by (try simp only [List.map_toArray, List.map_cons, List.map_nil]); first | done | rfl | (simp only [List.length_drop, List.length_take]; rfl)) ?_; (with_reducible refine (leb_TakeU.calls kj13 _ _ y205 32 t227 t228 none _ ?side1 ?side2 A31.out).mono ?_); (case side1 => repeat (first | exact (Kd.R_reads' HO_5.out).2.2 | (with_reducible refine Kd.C_alloc ?_ _) | (with_reducible refine Kd.C_drewN ?_ _) | (with_reducible refine Kd.C_drew ?_))); (case side2 => exact (Kd.R_reads' HO_5.out).2.1); rintro e w' ⟨rfl, ⟨nd, rfl⟩⟩; refine ⟨_, rfl, ?_⟩; (try simp only [errW_none, errW_some])) | ((with_reducible refine gate_callee (f := 14) rfl ?_); refine goesL_ (some 86) rfl rfl Try.func14 (by kernel_rfl) rfl #[.slice Ao24 y214.length co24, .int .i64 32] rfl (by (try simp only [List.map_toArray, List.map_cons, List.map_nil]); first | done | rfl | (simp only [List.length_drop, List.length_take]; rfl)) ?_; (with_reducible refine (leb_TakeS.calls kj13 _ _ y214 32 t230 t231 none _ ?side1 ?side2 A32.out).mono ?_); (case side1 => repeat (first | exact (Kd.R_reads' HO_6.out).2.2 | (with_reducible refine Kd.C_alloc ?_ _) | (with_reducible refine Kd.C_drewN ?_ _) | (with_reducible refine Kd.C_drew ?_))); (case side2 => exact (Kd.R_reads' HO_6.out).2.1); rintro e w' ⟨rfl, ⟨nd, rfl⟩⟩; refine ⟨_, rfl, ?_⟩; (try simp only [errW_none, errW_some])))
                            go_ret
                            exact ⟨by first | rfl | (simp [errW_none, errW_some] <;> rfl) | (simp [*, errW_none, errW_some] <;> rfl), by repeat (first | (with_reducible first | exact HB.out | apply below_alloc | apply pw_below_drewN | apply below_drew1) | exact HB.out)⟩
                        · have H1 : (if (wrap64 (a0)) ≥ (-2147483648) then (if (false == (decide ((wrap64 (a0)) < 2147483648))) = true then ((mandrellaw01_sure.f kj13).bind fun t237 => (some t237)) else (some false)) else (if (false == false) = true then ((mandrellaw01_sure.f kj13).bind fun t238 => (some t238)) else (some false))) = some r := by rw [if_neg (show ¬ (some q234).isNone = true by simp)] at H; exact H
                          clear H
                          have H := H1
                          clear H1
                          try simp only [errW_none, errW_some]
                          by_cases c40 : (wrap64 (a0)) ≥ (-2147483648)
                          · rw [if_pos c40] at H
                            have c40b0 : decide ((-2147483648) ≤ (wrap64 (a0))) = true := decide_eq_true c40
                            clear c40
                            by_cases c41 : (false == (decide ((wrap64 (a0)) < 2147483648))) = true
                            · rw [if_pos c41] at H
                              have c41b0 : (false == (decide ((wrap64 (a0)) < 2147483648))) = true := c41
                              (try (have c41b1 : decide (false = (decide ((wrap64 (a0)) < 2147483648))) = true := by simpa using c41))
                              (try (have c41b2 : (false == (decide ((wrap64 (a0)) < 2147483648))) = true := by simpa using c41))
                              clear c41
                              replace H := Option.bind_eq_some_iff.mp H
                              obtain ⟨t237, A420, H⟩ := H
                              replace H : (some t237) = some r := H
                              have A42 := Aside0.mk A420
                              clear A420
                              obtain rfl := Option.some.inj H
                              go_wp2_with (first | ((with_reducible refine gate_callee (f := 13) rfl ?_); refine goesL_ (some 80) rfl rfl Try.func13 (by kernel_rfl) rfl #[.slice Ao23 y205.length co23, .int .i64 32] rfl (by (try simp only [List.map_toArray, List.map_cons, List.map_nil]); first | done | rfl | (simp only [List.length_drop, List.length_take]; rfl)) ?_; (with_reducible refine (leb_TakeU.calls kj13 _ _ y205 32 t227 t228 none _ ?side1 ?side2 A31.out).mono ?_); (case side1 => repeat (first | exact (Kd.R_reads' HO_5.out).2.2 | (with_reducible refine Kd.C_alloc ?_ _) | (with_reducible refine Kd.C_drewN ?_ _) | (with_reducible refine Kd.C_drew ?_))); (case side2 => exact (Kd.R_reads' HO_5.out).2.1); rintro e w' ⟨rfl, ⟨nd, rfl⟩⟩; refine ⟨_, rfl, ?_⟩; (try simp only [errW_none, errW_some])) | ((with_reducible refine gate_callee (f := 14) rfl ?_); refine goesL_ (some 86) rfl rfl Try.func14 (by kernel_rfl) rfl #[.slice Ao24 y214.length co24, .int .i64 32] rfl (by (try simp only [List.map_toArray, List.map_cons, List.map_nil]); first | done | rfl | (simp only [List.length_drop, List.length_take]; rfl)) ?_; (with_reducible refine (leb_TakeS.calls kj13 _ _ y214 32 t230 t231 (some q234) _ ?side1 ?side2 A32.out).mono ?_); (case side1 => repeat (first | exact (Kd.R_reads' HO_6.out).2.2 | (with_reducible refine Kd.C_alloc ?_ _) | (with_reducible refine Kd.C_drewN ?_ _) | (with_reducible refine Kd.C_drew ?_))); (case side2 => exact (Kd.R_reads' HO_6.out).2.1); rintro e w' ⟨rfl, ⟨nd, rfl⟩⟩; refine ⟨_, rfl, ?_⟩; (try simp only [errW_none, errW_some])) | (go_at_call 8; (with_reducible refine (mandrellaw01_sure.calls kj13  t237 _ A42.out).mono ?_); rintro e w43 ⟨rfl, hb⟩; have n0_ := Aside0.mk (Kd.R_below (by (with_reducible repeat (first | apply Kd.R_alloc | apply Kd.R_drewN | apply Kd.R_drew)); exact HO_5.out) hb); have n1_ := Aside0.mk (Kd.R_below (by (with_reducible repeat (first | apply Kd.R_alloc | apply Kd.R_drewN | apply Kd.R_drew)); exact HO_6.out) hb); have n2_ := Aside0.mk (below_step (by repeat (first | (with_reducible first | exact HB.out | apply below_alloc | apply pw_below_drewN | apply below_drew1) | exact HB.out)) hb); clear HO_5; clear HO_6; clear HB; have HO_5 := n0_; have HO_6 := n1_; have HB := n2_; clear n0_ n1_ n2_; (try clear hb); (try clear hb2); (try clear hk); (try clear hi)))
                              go_ret
                              exact ⟨by first | rfl | (simp [errW_none, errW_some] <;> rfl) | (simp [*, errW_none, errW_some] <;> rfl), by repeat (first | (with_reducible first | exact HB.out | apply below_alloc | apply pw_below_drewN | apply below_drew1) | exact HB.out)⟩
                            · rw [if_neg c41] at H
                              have c41b0 : (false == (decide ((wrap64 (a0)) < 2147483648))) = false := by simpa using c41
                              (try (have c41b1 : decide (false = (decide ((wrap64 (a0)) < 2147483648))) = false := by simpa using c41))
                              (try (have c41b2 : (false == (decide ((wrap64 (a0)) < 2147483648))) = false := by simpa using c41))
                              (try (have c41b3 : ¬ (false = (decide ((wrap64 (a0)) < 2147483648))) := by simpa using c41))
                              clear c41
                              obtain rfl := Option.some.inj H
                              go_wp2_with (first | ((with_reducible refine gate_callee (f := 13) rfl ?_); refine goesL_ (some 80) rfl rfl Try.func13 (by kernel_rfl) rfl #[.slice Ao23 y205.length co23, .int .i64 32] rfl (by (try simp only [List.map_toArray, List.map_cons, List.map_nil]); first | done | rfl | (simp only [List.length_drop, List.length_take]; rfl)) ?_; (with_reducible refine (leb_TakeU.calls kj13 _ _ y205 32 t227 t228 none _ ?side1 ?side2 A31.out).mono ?_); (case side1 => repeat (first | exact (Kd.R_reads' HO_5.out).2.2 | (with_reducible refine Kd.C_alloc ?_ _) | (with_reducible refine Kd.C_drewN ?_ _) | (with_reducible refine Kd.C_drew ?_))); (case side2 => exact (Kd.R_reads' HO_5.out).2.1); rintro e w' ⟨rfl, ⟨nd, rfl⟩⟩; refine ⟨_, rfl, ?_⟩; (try simp only [errW_none, errW_some])) | ((with_reducible refine gate_callee (f := 14) rfl ?_); refine goesL_ (some 86) rfl rfl Try.func14 (by kernel_rfl) rfl #[.slice Ao24 y214.length co24, .int .i64 32] rfl (by (try simp only [List.map_toArray, List.map_cons, List.map_nil]); first | done | rfl | (simp only [List.length_drop, List.length_take]; rfl)) ?_; (with_reducible refine (leb_TakeS.calls kj13 _ _ y214 32 t230 t231 (some q234) _ ?side1 ?side2 A32.out).mono ?_); (case side1 => repeat (first | exact (Kd.R_reads' HO_6.out).2.2 | (with_reducible refine Kd.C_alloc ?_ _) | (with_reducible refine Kd.C_drewN ?_ _) | (with_reducible refine Kd.C_drew ?_))); (case side2 => exact (Kd.R_reads' HO_6.out).2.1); rintro e w' ⟨rfl, ⟨nd, rfl⟩⟩; refine ⟨_, rfl, ?_⟩; (try simp only [errW_none, errW_some])))
                              go_ret
                              exact ⟨by first | rfl | (simp [errW_none, errW_some] <;> rfl) | (simp [*, errW_none, errW_some] <;> rfl), by repeat (first | (with_reducible first | exact HB.out | apply below_alloc | apply pw_below_drewN | apply below_drew1) | exact HB.out)⟩
                          · rw [if_neg c40] at H
                            have c40b0 : decide ((-2147483648) ≤ (wrap64 (a0))) = false := decide_eq_false c40
                            clear c40
                            have H1 : ((mandrellaw01_sure.f kj13).bind fun t238 => (some t238)) = some r := by rw [if_pos (show (false == false) = true by decide)] at H; exact H
                            clear H
                            have H := H1
                            clear H1
                            replace H := Option.bind_eq_some_iff.mp H
                            obtain ⟨t238, A440, H⟩ := H
                            replace H : (some t238) = some r := H
                            have A44 := Aside0.mk A440
                            clear A440
                            obtain rfl := Option.some.inj H
                            go_wp2_with (first | ((with_reducible refine gate_callee (f := 13) rfl ?_); refine goesL_ (some 80) rfl rfl Try.func13 (by kernel_rfl) rfl #[.slice Ao23 y205.length co23, .int .i64 32] rfl (by (try simp only [List.map_toArray, List.map_cons, List.map_nil]); first | done | rfl | (simp only [List.length_drop, List.length_take]; rfl)) ?_; (with_reducible refine (leb_TakeU.calls kj13 _ _ y205 32 t227 t228 none _ ?side1 ?side2 A31.out).mono ?_); (case side1 => repeat (first | exact (Kd.R_reads' HO_5.out).2.2 | (with_reducible refine Kd.C_alloc ?_ _) | (with_reducible refine Kd.C_drewN ?_ _) | (with_reducible refine Kd.C_drew ?_))); (case side2 => exact (Kd.R_reads' HO_5.out).2.1); rintro e w' ⟨rfl, ⟨nd, rfl⟩⟩; refine ⟨_, rfl, ?_⟩; (try simp only [errW_none, errW_some])) | ((with_reducible refine gate_callee (f := 14) rfl ?_); refine goesL_ (some 86) rfl rfl Try.func14 (by kernel_rfl) rfl #[.slice Ao24 y214.length co24, .int .i64 32] rfl (by (try simp only [List.map_toArray, List.map_cons, List.map_nil]); first | done | rfl | (simp only [List.length_drop, List.length_take]; rfl)) ?_; (with_reducible refine (leb_TakeS.calls kj13 _ _ y214 32 t230 t231 (some q234) _ ?side1 ?side2 A32.out).mono ?_); (case side1 => repeat (first | exact (Kd.R_reads' HO_6.out).2.2 | (with_reducible refine Kd.C_alloc ?_ _) | (with_reducible refine Kd.C_drewN ?_ _) | (with_reducible refine Kd.C_drew ?_))); (case side2 => exact (Kd.R_reads' HO_6.out).2.1); rintro e w' ⟨rfl, ⟨nd, rfl⟩⟩; refine ⟨_, rfl, ?_⟩; (try simp only [errW_none, errW_some])) | (go_at_call 8; (with_reducible refine (mandrellaw01_sure.calls kj13  t238 _ A44.out).mono ?_); rintro e w45 ⟨rfl, hb⟩; have n0_ := Aside0.mk (Kd.R_below (by (with_reducible repeat (first | apply Kd.R_alloc | apply Kd.R_drewN | apply Kd.R_drew)); exact HO_5.out) hb); have n1_ := Aside0.mk (Kd.R_below (by (with_reducible repeat (first | apply Kd.R_alloc | apply Kd.R_drewN | apply Kd.R_drew)); exact HO_6.out) hb); have n2_ := Aside0.mk (below_step (by repeat (first | (with_reducible first | exact HB.out | apply below_alloc | apply pw_below_drewN | apply below_drew1) | exact HB.out)) hb); clear HO_5; clear HO_6; clear HB; have HO_5 := n0_; have HO_6 := n1_; have HB := n2_; clear n0_ n1_ n2_; (try clear hb); (try clear hb2); (try clear hk); (try clear hi)))
                            go_ret
                            exact ⟨by first | rfl | (simp [errW_none, errW_some] <;> rfl) | (simp [*, errW_none, errW_some] <;> rfl), by repeat (first | (with_reducible first | exact HB.out | apply below_alloc | apply pw_below_drewN | apply below_drew1) | exact HB.out)⟩
                      · rw [if_neg c34] at H
                        have c34b0 : (t227 == a0) = false := beq_eq_false_iff_ne.mpr c34
                        have c34b1 : (t227 != a0) = true := bne_iff_ne.mpr c34
                        obtain rfl := Option.some.inj H
                        go_wp2_with (first | ((with_reducible refine gate_callee (f := 13) rfl ?_); refine goesL_ (some 80) rfl rfl Try.func13 (by kernel_rfl) rfl #[.slice Ao23 y205.length co23, .int .i64 32] rfl (by (try simp only [List.map_toArray, List.map_cons, List.map_nil]); first | done | rfl | (simp only [List.length_drop, List.length_take]; rfl)) ?_; (with_reducible refine (leb_TakeU.calls kj13 _ _ y205 32 t227 t228 none _ ?side1 ?side2 A31.out).mono ?_); (case side1 => repeat (first | exact (Kd.R_reads' HO_5.out).2.2 | (with_reducible refine Kd.C_alloc ?_ _) | (with_reducible refine Kd.C_drewN ?_ _) | (with_reducible refine Kd.C_drew ?_))); (case side2 => exact (Kd.R_reads' HO_5.out).2.1); rintro e w' ⟨rfl, ⟨nd, rfl⟩⟩; refine ⟨_, rfl, ?_⟩; (try simp only [errW_none, errW_some])) | ((with_reducible refine gate_callee (f := 14) rfl ?_); refine goesL_ (some 86) rfl rfl Try.func14 (by kernel_rfl) rfl #[.slice Ao24 y214.length co24, .int .i64 32] rfl (by (try simp only [List.map_toArray, List.map_cons, List.map_nil]); first | done | rfl | (simp only [List.length_drop, List.length_take]; rfl)) ?_; (with_reducible refine (leb_TakeS.calls kj13 _ _ y214 32 t230 t231 t232 _ ?side1 ?side2 A32.out).mono ?_); (case side1 => repeat (first | exact (Kd.R_reads' HO_6.out).2.2 | (with_reducible refine Kd.C_alloc ?_ _) | (with_reducible refine Kd.C_drewN ?_ _) | (with_reducible refine Kd.C_drew ?_))); (case side2 => exact (Kd.R_reads' HO_6.out).2.1); rintro e w' ⟨rfl, ⟨nd, rfl⟩⟩; refine ⟨_, rfl, ?_⟩; (try simp only [errW_none, errW_some])))
                        go_ret
                        exact ⟨by first | rfl | (simp [errW_none, errW_some] <;> rfl) | (simp [*, errW_none, errW_some] <;> rfl), by repeat (first | (with_reducible first | exact HB.out | apply below_alloc | apply pw_below_drewN | apply below_drew1) | exact HB.out)⟩
                    · rw [if_neg c33] at H
                      have c33b0 : (true == (decide (a0 < 4294967296))) = false := by simpa using c33
                      (try (have c33b1 : decide (true = (decide (a0 < 4294967296))) = false := by simpa using c33))
                      (try (have c33b2 : (true == (decide (a0 < 4294967296))) = false := by simpa using c33))
                      (try (have c33b3 : ¬ (true = (decide (a0 < 4294967296))) := by simpa using c33))
                      clear c33
                      obtain rfl := Option.some.inj H
                      go_wp2_with (first | ((with_reducible refine gate_callee (f := 13) rfl ?_); refine goesL_ (some 80) rfl rfl Try.func13 (by kernel_rfl) rfl #[.slice Ao23 y205.length co23, .int .i64 32] rfl (by (try simp only [List.map_toArray, List.map_cons, List.map_nil]); first | done | rfl | (simp only [List.length_drop, List.length_take]; rfl)) ?_; (with_reducible refine (leb_TakeU.calls kj13 _ _ y205 32 t227 t228 none _ ?side1 ?side2 A31.out).mono ?_); (case side1 => repeat (first | exact (Kd.R_reads' HO_5.out).2.2 | (with_reducible refine Kd.C_alloc ?_ _) | (with_reducible refine Kd.C_drewN ?_ _) | (with_reducible refine Kd.C_drew ?_))); (case side2 => exact (Kd.R_reads' HO_5.out).2.1); rintro e w' ⟨rfl, ⟨nd, rfl⟩⟩; refine ⟨_, rfl, ?_⟩; (try simp only [errW_none, errW_some])) | ((with_reducible refine gate_callee (f := 14) rfl ?_); refine goesL_ (some 86) rfl rfl Try.func14 (by kernel_rfl) rfl #[.slice Ao24 y214.length co24, .int .i64 32] rfl (by (try simp only [List.map_toArray, List.map_cons, List.map_nil]); first | done | rfl | (simp only [List.length_drop, List.length_take]; rfl)) ?_; (with_reducible refine (leb_TakeS.calls kj13 _ _ y214 32 t230 t231 t232 _ ?side1 ?side2 A32.out).mono ?_); (case side1 => repeat (first | exact (Kd.R_reads' HO_6.out).2.2 | (with_reducible refine Kd.C_alloc ?_ _) | (with_reducible refine Kd.C_drewN ?_ _) | (with_reducible refine Kd.C_drew ?_))); (case side2 => exact (Kd.R_reads' HO_6.out).2.1); rintro e w' ⟨rfl, ⟨nd, rfl⟩⟩; refine ⟨_, rfl, ?_⟩; (try simp only [errW_none, errW_some])))
                      go_ret
                      exact ⟨by first | rfl | (simp [errW_none, errW_some] <;> rfl) | (simp [*, errW_none, errW_some] <;> rfl), by repeat (first | (with_reducible first | exact HB.out | apply below_alloc | apply pw_below_drewN | apply below_drew1) | exact HB.out)⟩
                  · have H1 : (if (false == (decide (a0 < 4294967296))) = true then (if t232.isNone = true then (if (wrap64 (a0)) ≥ (-2147483648) then (if (true == (decide ((wrap64 (a0)) < 2147483648))) = true then (if t230 = (wrap64 (a0)) then ((mandrellaw01_sure.f kj13).bind fun t240 => (some t240)) else (some false)) else (some false)) else (if (true == false) = true then (if t230 = (wrap64 (a0)) then ((mandrellaw01_sure.f kj13).bind fun t241 => (some t241)) else (some false)) else (some false))) else (if (wrap64 (a0)) ≥ (-2147483648) then (if (false == (decide ((wrap64 (a0)) < 2147483648))) = true then ((mandrellaw01_sure.f kj13).bind fun t242 => (some t242)) else (some false)) else (if (false == false) = true then ((mandrellaw01_sure.f kj13).bind fun t243 => (some t243)) else (some false)))) else (some false)) = some r := by rw [if_neg (show ¬ (some q233).isNone = true by simp)] at H; exact H
                    clear H
                    have H := H1
                    clear H1
                    try simp only [errW_none, errW_some]
                    by_cases c46 : (false == (decide (a0 < 4294967296))) = true
                    · rw [if_pos c46] at H
                      have c46b0 : (false == (decide (a0 < 4294967296))) = true := c46
                      (try (have c46b1 : decide (false = (decide (a0 < 4294967296))) = true := by simpa using c46))
                      (try (have c46b2 : (false == (decide (a0 < 4294967296))) = true := by simpa using c46))
                      clear c46
                      rcases t232 with _ | q239
                      · have H1 : (if (wrap64 (a0)) ≥ (-2147483648) then (if (true == (decide ((wrap64 (a0)) < 2147483648))) = true then (if t230 = (wrap64 (a0)) then ((mandrellaw01_sure.f kj13).bind fun t240 => (some t240)) else (some false)) else (some false)) else (if (true == false) = true then (if t230 = (wrap64 (a0)) then ((mandrellaw01_sure.f kj13).bind fun t241 => (some t241)) else (some false)) else (some false))) = some r := by rw [if_pos (show (none : Option Int).isNone = true by rfl)] at H; exact H
                        clear H
                        have H := H1
                        clear H1
                        try simp only [errW_none, errW_some]
                        by_cases c47 : (wrap64 (a0)) ≥ (-2147483648)
                        · rw [if_pos c47] at H
                          have c47b0 : decide ((-2147483648) ≤ (wrap64 (a0))) = true := decide_eq_true c47
                          clear c47
                          by_cases c48 : (true == (decide ((wrap64 (a0)) < 2147483648))) = true
                          · rw [if_pos c48] at H
                            have c48b0 : (true == (decide ((wrap64 (a0)) < 2147483648))) = true := c48
                            (try (have c48b1 : decide (true = (decide ((wrap64 (a0)) < 2147483648))) = true := by simpa using c48))
                            (try (have c48b2 : (true == (decide ((wrap64 (a0)) < 2147483648))) = true := by simpa using c48))
                            clear c48
                            by_cases c49 : t230 = (wrap64 (a0))
                            · rw [if_pos c49] at H
                              have c49b0 : (t230 == (wrap64 (a0))) = true := beq_iff_eq.mpr c49
                              have c49b1 : (t230 != (wrap64 (a0))) = false := bne_eq_false_iff_eq.mpr c49
                              clear c49
                              replace H := Option.bind_eq_some_iff.mp H
                              obtain ⟨t240, A500, H⟩ := H
                              replace H : (some t240) = some r := H
                              have A50 := Aside0.mk A500
                              clear A500
                              obtain rfl := Option.some.inj H
                              go_wp2_with (first | ((with_reducible refine gate_callee (f := 13) rfl ?_); refine goesL_ (some 80) rfl rfl Try.func13 (by kernel_rfl) rfl #[.slice Ao23 y205.length co23, .int .i64 32] rfl (by (try simp only [List.map_toArray, List.map_cons, List.map_nil]); first | done | rfl | (simp only [List.length_drop, List.length_take]; rfl)) ?_; (with_reducible refine (leb_TakeU.calls kj13 _ _ y205 32 t227 t228 (some q233) _ ?side1 ?side2 A31.out).mono ?_); (case side1 => repeat (first | exact (Kd.R_reads' HO_5.out).2.2 | (with_reducible refine Kd.C_alloc ?_ _) | (with_reducible refine Kd.C_drewN ?_ _) | (with_reducible refine Kd.C_drew ?_))); (case side2 => exact (Kd.R_reads' HO_5.out).2.1); rintro e w' ⟨rfl, ⟨nd, rfl⟩⟩; refine ⟨_, rfl, ?_⟩; (try simp only [errW_none, errW_some])) | ((with_reducible refine gate_callee (f := 14) rfl ?_); refine goesL_ (some 86) rfl rfl Try.func14 (by kernel_rfl) rfl #[.slice Ao24 y214.length co24, .int .i64 32] rfl (by (try simp only [List.map_toArray, List.map_cons, List.map_nil]); first | done | rfl | (simp only [List.length_drop, List.length_take]; rfl)) ?_; (with_reducible refine (leb_TakeS.calls kj13 _ _ y214 32 t230 t231 none _ ?side1 ?side2 A32.out).mono ?_); (case side1 => repeat (first | exact (Kd.R_reads' HO_6.out).2.2 | (with_reducible refine Kd.C_alloc ?_ _) | (with_reducible refine Kd.C_drewN ?_ _) | (with_reducible refine Kd.C_drew ?_))); (case side2 => exact (Kd.R_reads' HO_6.out).2.1); rintro e w' ⟨rfl, ⟨nd, rfl⟩⟩; refine ⟨_, rfl, ?_⟩; (try simp only [errW_none, errW_some])) | (go_at_call 8; (with_reducible refine (mandrellaw01_sure.calls kj13  t240 _ A50.out).mono ?_); rintro e w51 ⟨rfl, hb⟩; have n0_ := Aside0.mk (Kd.R_below (by (with_reducible repeat (first | apply Kd.R_alloc | apply Kd.R_drewN | apply Kd.R_drew)); exact HO_5.out) hb); have n1_ := Aside0.mk (Kd.R_below (by (with_reducible repeat (first | apply Kd.R_alloc | apply Kd.R_drewN | apply Kd.R_drew)); exact HO_6.out) hb); have n2_ := Aside0.mk (below_step (by repeat (first | (with_reducible first | exact HB.out | apply below_alloc | apply pw_below_drewN | apply below_drew1) | exact HB.out)) hb); clear HO_5; clear HO_6; clear HB; have HO_5 := n0_; have HO_6 := n1_; have HB := n2_; clear n0_ n1_ n2_; (try clear hb); (try clear hb2); (try clear hk); (try clear hi)))
                              go_ret
                              exact ⟨by first | rfl | (simp [errW_none, errW_some] <;> rfl) | (simp [*, errW_none, errW_some] <;> rfl), by repeat (first | (with_reducible first | exact HB.out | apply below_alloc | apply pw_below_drewN | apply below_drew1) | exact HB.out)⟩
                            · rw [if_neg c49] at H
                              have c49b0 : (t230 == (wrap64 (a0))) = false := beq_eq_false_iff_ne.mpr c49
                              have c49b1 : (t230 != (wrap64 (a0))) = true := bne_iff_ne.mpr c49
                              obtain rfl := Option.some.inj H
                              go_wp2_with (first | ((with_reducible refine gate_callee (f := 13) rfl ?_); refine goesL_ (some 80) rfl rfl Try.func13 (by kernel_rfl) rfl #[.slice Ao23 y205.length co23, .int .i64 32] rfl (by (try simp only [List.map_toArray, List.map_cons, List.map_nil]); first | done | rfl | (simp only [List.length_drop, List.length_take]; rfl)) ?_; (with_reducible refine (leb_TakeU.calls kj13 _ _ y205 32 t227 t228 (some q233) _ ?side1 ?side2 A31.out).mono ?_); (case side1 => repeat (first | exact (Kd.R_reads' HO_5.out).2.2 | (with_reducible refine Kd.C_alloc ?_ _) | (with_reducible refine Kd.C_drewN ?_ _) | (with_reducible refine Kd.C_drew ?_))); (case side2 => exact (Kd.R_reads' HO_5.out).2.1); rintro e w' ⟨rfl, ⟨nd, rfl⟩⟩; refine ⟨_, rfl, ?_⟩; (try simp only [errW_none, errW_some])) | ((with_reducible refine gate_callee (f := 14) rfl ?_); refine goesL_ (some 86) rfl rfl Try.func14 (by kernel_rfl) rfl #[.slice Ao24 y214.length co24, .int .i64 32] rfl (by (try simp only [List.map_toArray, List.map_cons, List.map_nil]); first | done | rfl | (simp only [List.length_drop, List.length_take]; rfl)) ?_; (with_reducible refine (leb_TakeS.calls kj13 _ _ y214 32 t230 t231 none _ ?side1 ?side2 A32.out).mono ?_); (case side1 => repeat (first | exact (Kd.R_reads' HO_6.out).2.2 | (with_reducible refine Kd.C_alloc ?_ _) | (with_reducible refine Kd.C_drewN ?_ _) | (with_reducible refine Kd.C_drew ?_))); (case side2 => exact (Kd.R_reads' HO_6.out).2.1); rintro e w' ⟨rfl, ⟨nd, rfl⟩⟩; refine ⟨_, rfl, ?_⟩; (try simp only [errW_none, errW_some])))
                              go_ret
                              exact ⟨by first | rfl | (simp [errW_none, errW_some] <;> rfl) | (simp [*, errW_none, errW_some] <;> rfl), by repeat (first | (with_reducible first | exact HB.out | apply below_alloc | apply pw_below_drewN | apply below_drew1) | exact HB.out)⟩
                          · rw [if_neg c48] at H
                            have c48b0 : (true == (decide ((wrap64 (a0)) < 2147483648))) = false := by simpa using c48
                            (try (have c48b1 : decide (true = (decide ((wrap64 (a0)) < 2147483648))) = false := by simpa using c48))
                            (try (have c48b2 : (true == (decide ((wrap64 (a0)) < 2147483648))) = false := by simpa using c48))
                            (try (have c48b3 : ¬ (true = (decide ((wrap64 (a0)) < 2147483648))) := by simpa using c48))
                            clear c48
                            obtain rfl := Option.some.inj H
                            go_wp2_with (first | ((with_reducible refine gate_callee (f := 13) rfl ?_); refine goesL_ (some 80) rfl rfl Try.func13 (by kernel_rfl) rfl #[.slice Ao23 y205.length co23, .int .i64 32] rfl (by (try simp only [List.map_toArray, List.map_cons, List.map_nil]); first | done | rfl | (simp only [List.length_drop, List.length_take]; rfl)) ?_; (with_reducible refine (leb_TakeU.calls kj13 _ _ y205 32 t227 t228 (some q233) _ ?side1 ?side2 A31.out).mono ?_); (case side1 => repeat (first | exact (Kd.R_reads' HO_5.out).2.2 | (with_reducible refine Kd.C_alloc ?_ _) | (with_reducible refine Kd.C_drewN ?_ _) | (with_reducible refine Kd.C_drew ?_))); (case side2 => exact (Kd.R_reads' HO_5.out).2.1); rintro e w' ⟨rfl, ⟨nd, rfl⟩⟩; refine ⟨_, rfl, ?_⟩; (try simp only [errW_none, errW_some])) | ((with_reducible refine gate_callee (f := 14) rfl ?_); refine goesL_ (some 86) rfl rfl Try.func14 (by kernel_rfl) rfl #[.slice Ao24 y214.length co24, .int .i64 32] rfl (by (try simp only [List.map_toArray, List.map_cons, List.map_nil]); first | done | rfl | (simp only [List.length_drop, List.length_take]; rfl)) ?_; (with_reducible refine (leb_TakeS.calls kj13 _ _ y214 32 t230 t231 none _ ?side1 ?side2 A32.out).mono ?_); (case side1 => repeat (first | exact (Kd.R_reads' HO_6.out).2.2 | (with_reducible refine Kd.C_alloc ?_ _) | (with_reducible refine Kd.C_drewN ?_ _) | (with_reducible refine Kd.C_drew ?_))); (case side2 => exact (Kd.R_reads' HO_6.out).2.1); rintro e w' ⟨rfl, ⟨nd, rfl⟩⟩; refine ⟨_, rfl, ?_⟩; (try simp only [errW_none, errW_some])))
                            go_ret
                            exact ⟨by first | rfl | (simp [errW_none, errW_some] <;> rfl) | (simp [*, errW_none, errW_some] <;> rfl), by repeat (first | (with_reducible first | exact HB.out | apply below_alloc | apply pw_below_drewN | apply below_drew1) | exact HB.out)⟩
                        · rw [if_neg c47] at H
                          have c47b0 : decide ((-2147483648) ≤ (wrap64 (a0))) = false := decide_eq_false c47
                          clear c47
                          have H1 : (some false) = some r := by rw [if_neg (show ¬ ((true == false) = true) by decide)] at H; exact H
                          clear H
                          have H := H1
                          clear H1
                          obtain rfl := Option.some.inj H
                          go_wp2_with (first | ((with_reducible refine gate_callee (f := 13) rfl ?_); refine goesL_ (some 80) rfl rfl Try.func13 (by kernel_rfl) rfl #[.slice Ao23 y205.length co23, .int .i64 32] rfl (by (try simp only [List.map_toArray, List.map_cons, List.map_nil]); first | done | rfl | (simp only [List.length_drop, List.length_take]; rfl)) ?_; (with_reducible refine (leb_TakeU.calls kj13 _ _ y205 32 t227 t228 (some q233) _ ?side1 ?side2 A31.out).mono ?_); (case side1 => repeat (first | exact (Kd.R_reads' HO_5.out).2.2 | (with_reducible refine Kd.C_alloc ?_ _) | (with_reducible refine Kd.C_drewN ?_ _) | (with_reducible refine Kd.C_drew ?_))); (case side2 => exact (Kd.R_reads' HO_5.out).2.1); rintro e w' ⟨rfl, ⟨nd, rfl⟩⟩; refine ⟨_, rfl, ?_⟩; (try simp only [errW_none, errW_some])) | ((with_reducible refine gate_callee (f := 14) rfl ?_); refine goesL_ (some 86) rfl rfl Try.func14 (by kernel_rfl) rfl #[.slice Ao24 y214.length co24, .int .i64 32] rfl (by (try simp only [List.map_toArray, List.map_cons, List.map_nil]); first | done | rfl | (simp only [List.length_drop, List.length_take]; rfl)) ?_; (with_reducible refine (leb_TakeS.calls kj13 _ _ y214 32 t230 t231 none _ ?side1 ?side2 A32.out).mono ?_); (case side1 => repeat (first | exact (Kd.R_reads' HO_6.out).2.2 | (with_reducible refine Kd.C_alloc ?_ _) | (with_reducible refine Kd.C_drewN ?_ _) | (with_reducible refine Kd.C_drew ?_))); (case side2 => exact (Kd.R_reads' HO_6.out).2.1); rintro e w' ⟨rfl, ⟨nd, rfl⟩⟩; refine ⟨_, rfl, ?_⟩; (try simp only [errW_none, errW_some])))
                          go_ret
                          exact ⟨by first | rfl | (simp [errW_none, errW_some] <;> rfl) | (simp [*, errW_none, errW_some] <;> rfl), by repeat (first | (with_reducible first | exact HB.out | apply below_alloc | apply pw_below_drewN | apply below_drew1) | exact HB.out)⟩
                      · have H1 : (if (wrap64 (a0)) ≥ (-2147483648) then (if (false == (decide ((wrap64 (a0)) < 2147483648))) = true then ((mandrellaw01_sure.f kj13).bind fun t242 => (some t242)) else (some false)) else (if (false == false) = true then ((mandrellaw01_sure.f kj13).bind fun t243 => (some t243)) else (some false))) = some r := by rw [if_neg (show ¬ (some q239).isNone = true by simp)] at H; exact H
                        clear H
                        have H := H1
                        clear H1
                        try simp only [errW_none, errW_some]
                        by_cases c52 : (wrap64 (a0)) ≥ (-2147483648)
                        · rw [if_pos c52] at H
                          have c52b0 : decide ((-2147483648) ≤ (wrap64 (a0))) = true := decide_eq_true c52
                          clear c52
                          by_cases c53 : (false == (decide ((wrap64 (a0)) < 2147483648))) = true
                          · rw [if_pos c53] at H
                            have c53b0 : (false == (decide ((wrap64 (a0)) < 2147483648))) = true := c53
                            (try (have c53b1 : decide (false = (decide ((wrap64 (a0)) < 2147483648))) = true := by simpa using c53))
                            (try (have c53b2 : (false == (decide ((wrap64 (a0)) < 2147483648))) = true := by simpa using c53))
                            clear c53
                            replace H := Option.bind_eq_some_iff.mp H
                            obtain ⟨t242, A540, H⟩ := H
                            replace H : (some t242) = some r := H
                            have A54 := Aside0.mk A540
                            clear A540
                            obtain rfl := Option.some.inj H
                            go_wp2_with (first | ((with_reducible refine gate_callee (f := 13) rfl ?_); refine goesL_ (some 80) rfl rfl Try.func13 (by kernel_rfl) rfl #[.slice Ao23 y205.length co23, .int .i64 32] rfl (by (try simp only [List.map_toArray, List.map_cons, List.map_nil]); first | done | rfl | (simp only [List.length_drop, List.length_take]; rfl)) ?_; (with_reducible refine (leb_TakeU.calls kj13 _ _ y205 32 t227 t228 (some q233) _ ?side1 ?side2 A31.out).mono ?_); (case side1 => repeat (first | exact (Kd.R_reads' HO_5.out).2.2 | (with_reducible refine Kd.C_alloc ?_ _) | (with_reducible refine Kd.C_drewN ?_ _) | (with_reducible refine Kd.C_drew ?_))); (case side2 => exact (Kd.R_reads' HO_5.out).2.1); rintro e w' ⟨rfl, ⟨nd, rfl⟩⟩; refine ⟨_, rfl, ?_⟩; (try simp only [errW_none, errW_some])) | ((with_reducible refine gate_callee (f := 14) rfl ?_); refine goesL_ (some 86) rfl rfl Try.func14 (by kernel_rfl) rfl #[.slice Ao24 y214.length co24, .int .i64 32] rfl (by (try simp only [List.map_toArray, List.map_cons, List.map_nil]); first | done | rfl | (simp only [List.length_drop, List.length_take]; rfl)) ?_; (with_reducible refine (leb_TakeS.calls kj13 _ _ y214 32 t230 t231 (some q239) _ ?side1 ?side2 A32.out).mono ?_); (case side1 => repeat (first | exact (Kd.R_reads' HO_6.out).2.2 | (with_reducible refine Kd.C_alloc ?_ _) | (with_reducible refine Kd.C_drewN ?_ _) | (with_reducible refine Kd.C_drew ?_))); (case side2 => exact (Kd.R_reads' HO_6.out).2.1); rintro e w' ⟨rfl, ⟨nd, rfl⟩⟩; refine ⟨_, rfl, ?_⟩; (try simp only [errW_none, errW_some])) | (go_at_call 8; (with_reducible refine (mandrellaw01_sure.calls kj13  t242 _ A54.out).mono ?_); rintro e w55 ⟨rfl, hb⟩; have n0_ := Aside0.mk (Kd.R_below (by (with_reducible repeat (first | apply Kd.R_alloc | apply Kd.R_drewN | apply Kd.R_drew)); exact HO_5.out) hb); have n1_ := Aside0.mk (Kd.R_below (by (with_reducible repeat (first | apply Kd.R_alloc | apply Kd.R_drewN | apply Kd.R_drew)); exact HO_6.out) hb); have n2_ := Aside0.mk (below_step (by repeat (first | (with_reducible first | exact HB.out | apply below_alloc | apply pw_below_drewN | apply below_drew1) | exact HB.out)) hb); clear HO_5; clear HO_6; clear HB; have HO_5 := n0_; have HO_6 := n1_; have HB := n2_; clear n0_ n1_ n2_; (try clear hb); (try clear hb2); (try clear hk); (try clear hi)))
                            go_ret
                            exact ⟨by first | rfl | (simp [errW_none, errW_some] <;> rfl) | (simp [*, errW_none, errW_some] <;> rfl), by repeat (first | (with_reducible first | exact HB.out | apply below_alloc | apply pw_below_drewN | apply below_drew1) | exact HB.out)⟩
                          · rw [if_neg c53] at H
                            have c53b0 : (false == (decide ((wrap64 (a0)) < 2147483648))) = false := by simpa using c53
                            (try (have c53b1 : decide (false = (decide ((wrap64 (a0)) < 2147483648))) = false := by simpa using c53))
                            (try (have c53b2 : (false == (decide ((wrap64 (a0)) < 2147483648))) = false := by simpa using c53))
                            (try (have c53b3 : ¬ (false = (decide ((wrap64 (a0)) < 2147483648))) := by simpa using c53))
                            clear c53
                            obtain rfl := Option.some.inj H
                            go_wp2_with (first | ((with_reducible refine gate_callee (f := 13) rfl ?_); refine goesL_ (some 80) rfl rfl Try.func13 (by kernel_rfl) rfl #[.slice Ao23 y205.length co23, .int .i64 32] rfl (by (try simp only [List.map_toArray, List.map_cons, List.map_nil]); first | done | rfl | (simp only [List.length_drop, List.length_take]; rfl)) ?_; (with_reducible refine (leb_TakeU.calls kj13 _ _ y205 32 t227 t228 (some q233) _ ?side1 ?side2 A31.out).mono ?_); (case side1 => repeat (first | exact (Kd.R_reads' HO_5.out).2.2 | (with_reducible refine Kd.C_alloc ?_ _) | (with_reducible refine Kd.C_drewN ?_ _) | (with_reducible refine Kd.C_drew ?_))); (case side2 => exact (Kd.R_reads' HO_5.out).2.1); rintro e w' ⟨rfl, ⟨nd, rfl⟩⟩; refine ⟨_, rfl, ?_⟩; (try simp only [errW_none, errW_some])) | ((with_reducible refine gate_callee (f := 14) rfl ?_); refine goesL_ (some 86) rfl rfl Try.func14 (by kernel_rfl) rfl #[.slice Ao24 y214.length co24, .int .i64 32] rfl (by (try simp only [List.map_toArray, List.map_cons, List.map_nil]); first | done | rfl | (simp only [List.length_drop, List.length_take]; rfl)) ?_; (with_reducible refine (leb_TakeS.calls kj13 _ _ y214 32 t230 t231 (some q239) _ ?side1 ?side2 A32.out).mono ?_); (case side1 => repeat (first | exact (Kd.R_reads' HO_6.out).2.2 | (with_reducible refine Kd.C_alloc ?_ _) | (with_reducible refine Kd.C_drewN ?_ _) | (with_reducible refine Kd.C_drew ?_))); (case side2 => exact (Kd.R_reads' HO_6.out).2.1); rintro e w' ⟨rfl, ⟨nd, rfl⟩⟩; refine ⟨_, rfl, ?_⟩; (try simp only [errW_none, errW_some])))
                            go_ret
                            exact ⟨by first | rfl | (simp [errW_none, errW_some] <;> rfl) | (simp [*, errW_none, errW_some] <;> rfl), by repeat (first | (with_reducible first | exact HB.out | apply below_alloc | apply pw_below_drewN | apply below_drew1) | exact HB.out)⟩
                        · rw [if_neg c52] at H
                          have c52b0 : decide ((-2147483648) ≤ (wrap64 (a0))) = false := decide_eq_false c52
                          clear c52
                          have H1 : ((mandrellaw01_sure.f kj13).bind fun t243 => (some t243)) = some r := by rw [if_pos (show (false == false) = true by decide)] at H; exact H
                          clear H
                          have H := H1
                          clear H1
                          replace H := Option.bind_eq_some_iff.mp H
                          obtain ⟨t243, A560, H⟩ := H
                          replace H : (some t243) = some r := H
                          have A56 := Aside0.mk A560
                          clear A560
                          obtain rfl := Option.some.inj H
                          go_wp2_with (first | ((with_reducible refine gate_callee (f := 13) rfl ?_); refine goesL_ (some 80) rfl rfl Try.func13 (by kernel_rfl) rfl #[.slice Ao23 y205.length co23, .int .i64 32] rfl (by (try simp only [List.map_toArray, List.map_cons, List.map_nil]); first | done | rfl | (simp only [List.length_drop, List.length_take]; rfl)) ?_; (with_reducible refine (leb_TakeU.calls kj13 _ _ y205 32 t227 t228 (some q233) _ ?side1 ?side2 A31.out).mono ?_); (case side1 => repeat (first | exact (Kd.R_reads' HO_5.out).2.2 | (with_reducible refine Kd.C_alloc ?_ _) | (with_reducible refine Kd.C_drewN ?_ _) | (with_reducible refine Kd.C_drew ?_))); (case side2 => exact (Kd.R_reads' HO_5.out).2.1); rintro e w' ⟨rfl, ⟨nd, rfl⟩⟩; refine ⟨_, rfl, ?_⟩; (try simp only [errW_none, errW_some])) | ((with_reducible refine gate_callee (f := 14) rfl ?_); refine goesL_ (some 86) rfl rfl Try.func14 (by kernel_rfl) rfl #[.slice Ao24 y214.length co24, .int .i64 32] rfl (by (try simp only [List.map_toArray, List.map_cons, List.map_nil]); first | done | rfl | (simp only [List.length_drop, List.length_take]; rfl)) ?_; (with_reducible refine (leb_TakeS.calls kj13 _ _ y214 32 t230 t231 (some q239) _ ?side1 ?side2 A32.out).mono ?_); (case side1 => repeat (first | exact (Kd.R_reads' HO_6.out).2.2 | (with_reducible refine Kd.C_alloc ?_ _) | (with_reducible refine Kd.C_drewN ?_ _) | (with_reducible refine Kd.C_drew ?_))); (case side2 => exact (Kd.R_reads' HO_6.out).2.1); rintro e w' ⟨rfl, ⟨nd, rfl⟩⟩; refine ⟨_, rfl, ?_⟩; (try simp only [errW_none, errW_some])) | (go_at_call 8; (with_reducible refine (mandrellaw01_sure.calls kj13  t243 _ A56.out).mono ?_); rintro e w57 ⟨rfl, hb⟩; have n0_ := Aside0.mk (Kd.R_below (by (with_reducible repeat (first | apply Kd.R_alloc | apply Kd.R_drewN | apply Kd.R_drew)); exact HO_5.out) hb); have n1_ := Aside0.mk (Kd.R_below (by (with_reducible repeat (first | apply Kd.R_alloc | apply Kd.R_drewN | apply Kd.R_drew)); exact HO_6.out) hb); have n2_ := Aside0.mk (below_step (by repeat (first | (with_reducible first | exact HB.out | apply below_alloc | apply pw_below_drewN | apply below_drew1) | exact HB.out)) hb); clear HO_5; clear HO_6; clear HB; have HO_5 := n0_; have HO_6 := n1_; have HB := n2_; clear n0_ n1_ n2_; (try clear hb); (try clear hb2); (try clear hk); (try clear hi)))
                          go_ret
                          exact ⟨by first | rfl | (simp [errW_none, errW_some] <;> rfl) | (simp [*, errW_none, errW_some] <;> rfl), by repeat (first | (with_reducible first | exact HB.out | apply below_alloc | apply pw_below_drewN | apply below_drew1) | exact HB.out)⟩
                    · rw [if_neg c46] at H
                      have c46b0 : (false == (decide (a0 < 4294967296))) = false := by simpa using c46
                      (try (have c46b1 : decide (false = (decide (a0 < 4294967296))) = false := by simpa using c46))
                      (try (have c46b2 : (false == (decide (a0 < 4294967296))) = false := by simpa using c46))
                      (try (have c46b3 : ¬ (false = (decide (a0 < 4294967296))) := by simpa using c46))
                      clear c46
                      obtain rfl := Option.some.inj H
                      go_wp2_with (first | ((with_reducible refine gate_callee (f := 13) rfl ?_); refine goesL_ (some 80) rfl rfl Try.func13 (by kernel_rfl) rfl #[.slice Ao23 y205.length co23, .int .i64 32] rfl (by (try simp only [List.map_toArray, List.map_cons, List.map_nil]); first | done | rfl | (simp only [List.length_drop, List.length_take]; rfl)) ?_; (with_reducible refine (leb_TakeU.calls kj13 _ _ y205 32 t227 t228 (some q233) _ ?side1 ?side2 A31.out).mono ?_); (case side1 => repeat (first | exact (Kd.R_reads' HO_5.out).2.2 | (with_reducible refine Kd.C_alloc ?_ _) | (with_reducible refine Kd.C_drewN ?_ _) | (with_reducible refine Kd.C_drew ?_))); (case side2 => exact (Kd.R_reads' HO_5.out).2.1); rintro e w' ⟨rfl, ⟨nd, rfl⟩⟩; refine ⟨_, rfl, ?_⟩; (try simp only [errW_none, errW_some])) | ((with_reducible refine gate_callee (f := 14) rfl ?_); refine goesL_ (some 86) rfl rfl Try.func14 (by kernel_rfl) rfl #[.slice Ao24 y214.length co24, .int .i64 32] rfl (by (try simp only [List.map_toArray, List.map_cons, List.map_nil]); first | done | rfl | (simp only [List.length_drop, List.length_take]; rfl)) ?_; (with_reducible refine (leb_TakeS.calls kj13 _ _ y214 32 t230 t231 t232 _ ?side1 ?side2 A32.out).mono ?_); (case side1 => repeat (first | exact (Kd.R_reads' HO_6.out).2.2 | (with_reducible refine Kd.C_alloc ?_ _) | (with_reducible refine Kd.C_drewN ?_ _) | (with_reducible refine Kd.C_drew ?_))); (case side2 => exact (Kd.R_reads' HO_6.out).2.1); rintro e w' ⟨rfl, ⟨nd, rfl⟩⟩; refine ⟨_, rfl, ?_⟩; (try simp only [errW_none, errW_some])))
                      go_ret
                      exact ⟨by first | rfl | (simp [errW_none, errW_some] <;> rfl) | (simp [*, errW_none, errW_some] <;> rfl), by repeat (first | (with_reducible first | exact HB.out | apply below_alloc | apply pw_below_drewN | apply below_drew1) | exact HB.out)⟩
          · rw [if_neg c11] at H
            exact absurd H (by simp)
        · rw [if_neg c10] at H
          exact absurd H (by simp)
      · rw [if_neg c8] at H
        exact absurd H (by simp)
    · rw [if_neg c7] at H
      exact absurd H (by simp)

/-- THE ONE PURE STATEMENT of mandrellaw01_LebBack: yours. -/
def mandrellaw01_LebBack.Pure : Prop := ∀ (a0 : Int) (l1 : List Int), (Lit.int .u64 a0).wf = true → l1.length ≤ maxLen → l1.length * 1 ≤ 140737488351232 → (∀ x ∈ l1, (Lit.int .u8 x).wf = true) → ∃ k, mandrellaw01_LebBack.f k a0 l1 = some true
theorem mandrellaw01_LebBack.walk (P : mandrellaw01_LebBack.Pure) (a0 : Int) (a1 : Option Addr) (len1 cap1 : Nat) (z1 : List Int) (w : World) (w0 : (Lit.int .u64 a0).wf = true) (w1 : (a1 = none ∧ len1 = 0 ∧ cap1 = 0 ∧ z1 = []) ∨ ∃ x, a1 = some x ∧ len1 ≤ cap1 ∧ cap1 ≤ maxLen ∧ z1.length = cap1 ∧ (∀ i, i < z1.length → w.cell? (x.add i) = some (.int .u8 (z1.getD i 0))) ∧ ∀ n ∈ z1, (Lit.int .u8 n).wf = true) (y1 : len1 * 1 ≤ 140737488351232) :
    Calls Try.prog 5 #[.int .u64 a0, .slice a1 len1 cap1] w fun e w' => e = .returned (.bool true) ∧ Below w.heap.size w w' := by
  obtain ⟨l1, rfl, hr1, hm1, hw1, hc1⟩ := ReadsInt.ofRowC w1
  obtain ⟨k, h⟩ := P a0 l1 w0 hm1 y1 hw1
  refine (mandrellaw01_LebBack.calls k a0 _ _ l1 true w (Kd.C_of_reads (d := (0 : Int)) (h1 := fun _ => rfl) hr1) hc1 h).mono ?_
  rintro e w' ⟨rfl, hd⟩
  exact ⟨rfl, hd⟩

end Go.Proofs.Ytljmikfpknmnnaa.XL
