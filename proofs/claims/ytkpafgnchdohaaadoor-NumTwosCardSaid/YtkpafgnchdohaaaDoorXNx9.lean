/- Functions of the Go program as Lean functions, and the proofs that the Go code answers as they do. Written by a program of this session. -/
import Derived.Test.YtkpafgnchdohaaaDoorXNx0
import Derived.Test.YtkpafgnchdohaaaDoorXNx6
import Derived.Test.YtkpafgnchdohaaaDoorXNx7
import Derived.Test.YtkpafgnchdohaaaDoorXNx8
namespace Go.Proofs.YtkpafgnchdohaaaDoor.XN
open Go.RowKit Go.Proofs.YtkpafgnchdohaaaDoorW.PrintWords Go.Proofs.YtkpafgnchdohaaaDoorW.PrintLast Go.Proofs.YtkpafgnchdohaaaDoorW.PrintMore
attribute [local go_sem] max2_int min2_int max_two min_two max_three min_three max_four min_four   -- for this text's walks alone
set_option linter.unusedVariables false
set_option linter.unusedSimpArgs false

/-! ### mandrelref02_Two: function 15 -/
mutual
def mandrelref02_Two.j0 : Nat → Int → Int → ByteArray → Int → Bool → Option (Int × Int × Bool)
  | 0, _, _, _, _, _ => none
  | k + 1, x1, x2, x9, x10, x29 => if x29 = true then (some (0, 0, false)) else ((mandrelref02_low.f x1 x10).bind fun t295 => ((mandrelref02_low.f x2 x10).bind fun t296 => ((mandrelref02_holds.f x9 t295 t296 x10).bind fun bt297 => (if bt297.2 = true then (if bt297.1 = true then (some (1, 0, true)) else (some (0, 0, true))) else (if x9.toList = ([97, 100, 100] : List UInt8) then ((mandrelref02_low.f (IntKind.u64.wrap (t295 + t296)) x10).bind fun t299 => (some (t299, 0, true))) else (if x9.toList = ([115, 117, 98] : List UInt8) then ((mandrelref02_low.f (IntKind.u64.wrap (t295 - t296)) x10).bind fun t300 => (some (t300, 0, true))) else (if x9.toList = ([109, 117, 108] : List UInt8) then ((mandrelref02_low.f (IntKind.u64.wrap (t295 * t296)) x10).bind fun t301 => (some (t301, 0, true))) else (if x9.toList = ([97, 110, 100] : List UInt8) then (mandrelref02_Two.j1 k t295 t296 x9 x10 x9 (x9.toList == ([97, 110, 100] : List UInt8))) else (if x9.toList = ([111, 114] : List UInt8) then (mandrelref02_Two.j1 k t295 t296 x9 x10 x9 (x9.toList == ([111, 114] : List UInt8))) else (mandrelref02_Two.j1 k t295 t296 x9 x10 x9 (x9.toList == ([120, 111, 114] : List UInt8))))))))))))
def mandrelref02_Two.j1 : Nat → Int → Int → ByteArray → Int → ByteArray → Bool → Option (Int × Int × Bool)
  | 0, _, _, _, _, _, _ => none
  | k + 1, x1, x2, x9, x10, x46, x68 => if x68 = true then (mandrelref02_Two.l0 k x1 x2 x9 x10 ([] : List Bool) 0) else (if x46.toList = ([100, 105, 118, 95, 115] : List UInt8) then (mandrelref02_Two.j3 k x1 x2 x9 x10 (x46.toList == ([100, 105, 118, 95, 115] : List UInt8))) else (if x46.toList = ([100, 105, 118, 95, 117] : List UInt8) then (mandrelref02_Two.j3 k x1 x2 x9 x10 (x46.toList == ([100, 105, 118, 95, 117] : List UInt8))) else (if x46.toList = ([114, 101, 109, 95, 115] : List UInt8) then (mandrelref02_Two.j3 k x1 x2 x9 x10 (x46.toList == ([114, 101, 109, 95, 115] : List UInt8))) else (mandrelref02_Two.j3 k x1 x2 x9 x10 (x46.toList == ([114, 101, 109, 95, 117] : List UInt8))))))
def mandrelref02_Two.l0 : Nat → Int → Int → ByteArray → Int → List Bool → Int → Option (Int × Int × Bool)
  | 0, _, _, _, _, _, _ => none
  | k + 1, x1, x2, x9, x10, x13, x14 => if x14 < x10 then ((mandrelref02_bit.f x1 x14).bind fun t302 => ((mandrelref02_bit.f x2 x14).bind fun t303 => (if x9.toList = ([97, 110, 100] : List UInt8) then (if t302 = true then (if t303 = true then (if x13.length < 140737488355328 then (mandrelref02_Two.l0 k x1 x2 x9 x10 (x13 ++ [true]) (wrap64 (x14 + 1))) else (none)) else (if x9.toList = ([111, 114] : List UInt8) then (if x13.length < 140737488355328 then (mandrelref02_Two.l0 k x1 x2 x9 x10 (x13 ++ [true]) (wrap64 (x14 + 1))) else (none)) else (if x9.toList = ([120, 111, 114] : List UInt8) then (if x13.length < 140737488355328 then (mandrelref02_Two.l0 k x1 x2 x9 x10 (x13 ++ [(t302 != t303)]) (wrap64 (x14 + 1))) else (none)) else (if x13.length < 140737488355328 then (mandrelref02_Two.l0 k x1 x2 x9 x10 (x13 ++ [false]) (wrap64 (x14 + 1))) else (none))))) else (if x9.toList = ([111, 114] : List UInt8) then (if t303 = true then (if x13.length < 140737488355328 then (mandrelref02_Two.l0 k x1 x2 x9 x10 (x13 ++ [true]) (wrap64 (x14 + 1))) else (none)) else (if x9.toList = ([120, 111, 114] : List UInt8) then (if x13.length < 140737488355328 then (mandrelref02_Two.l0 k x1 x2 x9 x10 (x13 ++ [(t302 != t303)]) (wrap64 (x14 + 1))) else (none)) else (if x13.length < 140737488355328 then (mandrelref02_Two.l0 k x1 x2 x9 x10 (x13 ++ [false]) (wrap64 (x14 + 1))) else (none)))) else (if x9.toList = ([120, 111, 114] : List UInt8) then (if x13.length < 140737488355328 then (mandrelref02_Two.l0 k x1 x2 x9 x10 (x13 ++ [(t302 != t303)]) (wrap64 (x14 + 1))) else (none)) else (if x13.length < 140737488355328 then (mandrelref02_Two.l0 k x1 x2 x9 x10 (x13 ++ [false]) (wrap64 (x14 + 1))) else (none))))) else (if x9.toList = ([111, 114] : List UInt8) then (if t302 = true then (if x13.length < 140737488355328 then (mandrelref02_Two.l0 k x1 x2 x9 x10 (x13 ++ [true]) (wrap64 (x14 + 1))) else (none)) else (if t303 = true then (if x13.length < 140737488355328 then (mandrelref02_Two.l0 k x1 x2 x9 x10 (x13 ++ [true]) (wrap64 (x14 + 1))) else (none)) else (if x9.toList = ([120, 111, 114] : List UInt8) then (if x13.length < 140737488355328 then (mandrelref02_Two.l0 k x1 x2 x9 x10 (x13 ++ [(t302 != t303)]) (wrap64 (x14 + 1))) else (none)) else (if x13.length < 140737488355328 then (mandrelref02_Two.l0 k x1 x2 x9 x10 (x13 ++ [false]) (wrap64 (x14 + 1))) else (none))))) else (if x9.toList = ([120, 111, 114] : List UInt8) then (if x13.length < 140737488355328 then (mandrelref02_Two.l0 k x1 x2 x9 x10 (x13 ++ [(t302 != t303)]) (wrap64 (x14 + 1))) else (none)) else (if x13.length < 140737488355328 then (mandrelref02_Two.l0 k x1 x2 x9 x10 (x13 ++ [false]) (wrap64 (x14 + 1))) else (none))))))) else ((mandrelref02_made.f k x13).bind fun t349 => (some (t349, 0, true)))
def mandrelref02_Two.j3 : Nat → Int → Int → ByteArray → Int → Bool → Option (Int × Int × Bool)
  | 0, _, _, _, _, _ => none
  | k + 1, x1, x2, x9, x10, x115 => if x115 = true then ((mandrelref02_divided.f x9 x1 x2 x10).bind fun bt350 => (some (bt350.1, bt350.2, true))) else (if (IntKind.u64.wrap (x10)) = 0 then (none) else ((mandrelref02_moved.f k x9 x1 (wrap64 (Int.tmod x2 (IntKind.u64.wrap (x10)))) x10).bind fun t352 => (some (t352, 0, true))))
end
def mandrelref02_Two.f (k : Nat) (a0 : Int) (a1 : Int) (a2 : Int) : Option (Int × Int × Bool) := (mandrelref02_Name.f k a0).bind fun bt292 => (if bt292.1.toList = ([] : List UInt8) then (mandrelref02_Two.j0 k a1 a2 bt292.1 bt292.2 true) else ((mandrelref02_Alone.f bt292.1).bind fun t294 => (mandrelref02_Two.j0 k a1 a2 bt292.1 bt292.2 t294)))
theorem mandrelref02_Two.mono_l : ∀ k, (∀ y0 y1 y2 y3 y4, LeO (mandrelref02_Two.j0 k y0 y1 y2 y3 y4) (mandrelref02_Two.j0 (k + 1) y0 y1 y2 y3 y4)) ∧ (∀ y0 y1 y2 y3 y4 y5, LeO (mandrelref02_Two.j1 k y0 y1 y2 y3 y4 y5) (mandrelref02_Two.j1 (k + 1) y0 y1 y2 y3 y4 y5)) ∧ (∀ y0 y1 y2 y3 y4 y5, LeO (mandrelref02_Two.l0 k y0 y1 y2 y3 y4 y5) (mandrelref02_Two.l0 (k + 1) y0 y1 y2 y3 y4 y5)) ∧ (∀ y0 y1 y2 y3 y4, LeO (mandrelref02_Two.j3 k y0 y1 y2 y3 y4) (mandrelref02_Two.j3 (k + 1) y0 y1 y2 y3 y4))
  | 0 => ⟨fun _ _ _ _ _ r h => by simp [mandrelref02_Two.j0] at h, fun _ _ _ _ _ _ r h => by simp [mandrelref02_Two.j1] at h, fun _ _ _ _ _ _ r h => by simp [mandrelref02_Two.l0] at h, fun _ _ _ _ _ r h => by simp [mandrelref02_Two.j3] at h⟩
  | k + 1 => by
    obtain ⟨ih0, ih1, ih2, ih3⟩ := mandrelref02_Two.mono_l k
    refine ⟨?_, ?_, ?_, ?_⟩
    · intro y0 y1 y2 y3 y4
      unfold mandrelref02_Two.j0
      repeat' first
      | (with_reducible exact ih0 _ _ _ _ _)
      | (with_reducible exact ih1 _ _ _ _ _ _)
      | (with_reducible exact ih2 _ _ _ _ _ _)
      | (with_reducible exact ih3 _ _ _ _ _)
      | (with_reducible exact mandrelref02_Name.mono _ _)
      | (with_reducible exact mandrelref02_made.mono _ _)
      | (with_reducible exact mandrelref02_moved.mono _ _ _ _ _)
      | (with_reducible exact LeO.refl _)
      | (with_reducible exact LeO.none _)
      | (with_reducible refine LeO.ite ?_ ?_)
      | (with_reducible refine LeO.bind ?_ (fun _ => ?_))
      | exact ih0 _ _ _ _ _
      | exact ih1 _ _ _ _ _ _
      | exact ih2 _ _ _ _ _ _
      | exact ih3 _ _ _ _ _
      | exact mandrelref02_Name.mono _ _
      | exact mandrelref02_made.mono _ _
      | exact mandrelref02_moved.mono _ _ _ _ _
      | exact LeO.none _
      | refine LeO.ite ?_ ?_
      | refine LeO.bind ?_ (fun _ => ?_)
    · intro y0 y1 y2 y3 y4 y5
      unfold mandrelref02_Two.j1
      repeat' first
      | (with_reducible exact ih0 _ _ _ _ _)
      | (with_reducible exact ih1 _ _ _ _ _ _)
      | (with_reducible exact ih2 _ _ _ _ _ _)
      | (with_reducible exact ih3 _ _ _ _ _)
      | (with_reducible exact mandrelref02_Name.mono _ _)
      | (with_reducible exact mandrelref02_made.mono _ _)
      | (with_reducible exact mandrelref02_moved.mono _ _ _ _ _)
      | (with_reducible exact LeO.refl _)
      | (with_reducible exact LeO.none _)
      | (with_reducible refine LeO.ite ?_ ?_)
      | (with_reducible refine LeO.bind ?_ (fun _ => ?_))
      | exact ih0 _ _ _ _ _
      | exact ih1 _ _ _ _ _ _
      | exact ih2 _ _ _ _ _ _
      | exact ih3 _ _ _ _ _
      | exact mandrelref02_Name.mono _ _
      | exact mandrelref02_made.mono _ _
      | exact mandrelref02_moved.mono _ _ _ _ _
      | exact LeO.none _
      | refine LeO.ite ?_ ?_
      | refine LeO.bind ?_ (fun _ => ?_)
    · intro y0 y1 y2 y3 y4 y5
      unfold mandrelref02_Two.l0
      repeat' first
      | (with_reducible exact ih0 _ _ _ _ _)
      | (with_reducible exact ih1 _ _ _ _ _ _)
      | (with_reducible exact ih2 _ _ _ _ _ _)
      | (with_reducible exact ih3 _ _ _ _ _)
      | (with_reducible exact mandrelref02_Name.mono _ _)
      | (with_reducible exact mandrelref02_made.mono _ _)
      | (with_reducible exact mandrelref02_moved.mono _ _ _ _ _)
      | (with_reducible exact LeO.refl _)
      | (with_reducible exact LeO.none _)
      | (with_reducible refine LeO.ite ?_ ?_)
      | (with_reducible refine LeO.bind ?_ (fun _ => ?_))
      | exact ih0 _ _ _ _ _
      | exact ih1 _ _ _ _ _ _
      | exact ih2 _ _ _ _ _ _
      | exact ih3 _ _ _ _ _
      | exact mandrelref02_Name.mono _ _
      | exact mandrelref02_made.mono _ _
      | exact mandrelref02_moved.mono _ _ _ _ _
      | exact LeO.none _
      | refine LeO.ite ?_ ?_
      | refine LeO.bind ?_ (fun _ => ?_)
    · intro y0 y1 y2 y3 y4
      unfold mandrelref02_Two.j3
      repeat' first
      | (with_reducible exact ih0 _ _ _ _ _)
      | (with_reducible exact ih1 _ _ _ _ _ _)
      | (with_reducible exact ih2 _ _ _ _ _ _)
      | (with_reducible exact ih3 _ _ _ _ _)
      | (with_reducible exact mandrelref02_Name.mono _ _)
      | (with_reducible exact mandrelref02_made.mono _ _)
      | (with_reducible exact mandrelref02_moved.mono _ _ _ _ _)
      | (with_reducible exact LeO.refl _)
      | (with_reducible exact LeO.none _)
      | (with_reducible refine LeO.ite ?_ ?_)
      | (with_reducible refine LeO.bind ?_ (fun _ => ?_))
      | exact ih0 _ _ _ _ _
      | exact ih1 _ _ _ _ _ _
      | exact ih2 _ _ _ _ _ _
      | exact ih3 _ _ _ _ _
      | exact mandrelref02_Name.mono _ _
      | exact mandrelref02_made.mono _ _
      | exact mandrelref02_moved.mono _ _ _ _ _
      | exact LeO.none _
      | refine LeO.ite ?_ ?_
      | refine LeO.bind ?_ (fun _ => ?_)
theorem mandrelref02_Two.mono : ∀ a0 a1 a2 k, LeO (mandrelref02_Two.f k a0 a1 a2) (mandrelref02_Two.f (k + 1) a0 a1 a2) := by
  intro a0 a1 a2 k
  obtain ⟨ih0, ih1, ih2, ih3⟩ := mandrelref02_Two.mono_l k
  unfold mandrelref02_Two.f
  repeat' first
      | (with_reducible exact ih0 _ _ _ _ _)
      | (with_reducible exact ih1 _ _ _ _ _ _)
      | (with_reducible exact ih2 _ _ _ _ _ _)
      | (with_reducible exact ih3 _ _ _ _ _)
      | (with_reducible exact mandrelref02_Name.mono _ _)
      | (with_reducible exact mandrelref02_made.mono _ _)
      | (with_reducible exact mandrelref02_moved.mono _ _ _ _ _)
      | (with_reducible exact LeO.refl _)
      | (with_reducible exact LeO.none _)
      | (with_reducible refine LeO.ite ?_ ?_)
      | (with_reducible refine LeO.bind ?_ (fun _ => ?_))
      | exact ih0 _ _ _ _ _
      | exact ih1 _ _ _ _ _ _
      | exact ih2 _ _ _ _ _ _
      | exact ih3 _ _ _ _ _
      | exact mandrelref02_Name.mono _ _
      | exact mandrelref02_made.mono _ _
      | exact mandrelref02_moved.mono _ _ _ _ _
      | exact LeO.none _
      | refine LeO.ite ?_ ?_
      | refine LeO.bind ?_ (fun _ => ?_)
set_option maxHeartbeats 8000000 in
set_option maxRecDepth 100000 in
theorem mandrelref02_Two.calls (k : Nat) (a0 : Int) (a1 : Int) (a2 : Int) (r1 : Int) (r2 : Int) (r3 : Bool) (w : World) (h : mandrelref02_Two.f k a0 a1 a2 = some (r1, r2, r3)) :
    Calls Tryd.prog 15 #[.int .u8 a0, .int .u64 a1, .int .u64 a2] w fun e w' => e = .returned (.tuple #[.int .u64 r1, .int .i64 r2, .bool r3]) ∧ Below w.heap.size w w' := by
  have HB := Aside0.mk (Below.refl w.heap.size w)
  have H : ((mandrelref02_Name.f k a0).bind fun bt292 => (if bt292.1.toList = ([] : List UInt8) then (mandrelref02_Two.j0 k a1 a2 bt292.1 bt292.2 true) else ((mandrelref02_Alone.f bt292.1).bind fun t294 => (mandrelref02_Two.j0 k a1 a2 bt292.1 bt292.2 t294)))) = some (r1, r2, r3) := h
  clear h
  replace H := Option.bind_eq_some_iff.mp H
  obtain ⟨⟨t292, t293⟩, A40, H⟩ := H
  replace H : (if t292.toList = ([] : List UInt8) then (mandrelref02_Two.j0 k a1 a2 t292 t293 true) else ((mandrelref02_Alone.f t292).bind fun t294 => (mandrelref02_Two.j0 k a1 a2 t292 t293 t294))) = some (r1, r2, r3) := H
  have A4 := Aside0.mk A40
  clear A40
  have HC5 := Aside0.mk H
  clear H
  go_enter Tryd.func15, Tryd.ntmps15
  go_upto_region 2 with (first | ((with_reducible refine gate_callee (f := 24) rfl ?_); refine goesL_ (some 21) rfl rfl Tryd.func24 (by kernel_rfl) rfl #[.int .u8 a0] rfl (by (try simp only [List.map_toArray, List.map_cons, List.map_nil]); first | done | rfl | (simp only [List.length_drop, List.length_take]; rfl)) ?_; (with_reducible refine (mandrelref02_Name.calls k a0 t292 t293 _ A4.out).mono ?_); rintro e w6 ⟨rfl, hb⟩; refine ⟨_, rfl, ?_⟩; have n0_ := Aside0.mk (below_step (by repeat (first | (with_reducible first | exact HB.out | apply below_alloc | apply pw_below_drewN | apply below_drew1) | exact HB.out)) hb); clear HB; have HB := n0_; clear n0_; (try clear hb); (try clear hb2); (try clear hk); (try clear hi)))
  (try simp only [Act.put, List.setIfInBounds_toArray, List.set_cons_zero, List.set_cons_succ])
  go_cut [29] (fun v29 wc => ∃ (kq : Nat) (x29_4 : Bool), v29 = .bool x29_4 ∧ Aside0 (mandrelref02_Two.j0 kq a1 a2 t292 t293 x29_4 = some (r1, r2, r3)) ∧ Aside0 (kq ≤ k) ∧ Aside0 (Below w.heap.size w wc))
  case first =>
    have H := HC5.out
    clear HC5
    by_cases c7 : t292.toList = ([] : List UInt8)
    · rw [if_pos c7] at H
      have c7b0 : (t292.toList == ([] : List UInt8)) = true := beq_iff_eq.mpr c7
      have c7b1 : (t292.toList != ([] : List UInt8)) = false := bne_eq_false_iff_eq.mpr c7
      clear c7
      (first | rw [c7b0] | (simp only [i64_w, i32_w]; rw [c7b0]) | skip)
      have H' := Aside0.mk H
      clear H
      go_wp2
      go_meet
      case rel => exact ⟨_, (true), (by first | rfl | (simp; done) | (simp [*]; done)), H', ⟨by first | omega | exact Nat.le_refl _⟩, ⟨by repeat (first | (with_reducible first | exact HB.out | apply below_alloc | apply pw_below_drewN | apply below_drew1) | exact HB.out)⟩⟩
    · rw [if_neg c7] at H
      have c7b0 : (t292.toList == ([] : List UInt8)) = false := beq_eq_false_iff_ne.mpr c7
      have c7b1 : (t292.toList != ([] : List UInt8)) = true := bne_iff_ne.mpr c7
      (first | rw [c7b0] | (simp only [i64_w, i32_w]; rw [c7b0]) | skip)
      replace H := Option.bind_eq_some_iff.mp H
      obtain ⟨t294, A80, H⟩ := H
      replace H : (mandrelref02_Two.j0 k a1 a2 t292 t293 t294) = some (r1, r2, r3) := H
      have A8 := Aside0.mk A80
      clear A80
      have H' := Aside0.mk H
      clear H
      go_wp2_with (first | (go_at_call 25; (with_reducible refine (mandrelref02_Alone.calls t292 t294 _ A8.out).mono ?_); rintro e w' ⟨rfl, ⟨nd, rfl⟩⟩))
      go_meet
      case rel => exact ⟨_, (t294), (by first | rfl | (simp; done) | (simp [*]; done)), H', ⟨by first | omega | exact Nat.le_refl _⟩, ⟨by repeat (first | (with_reducible first | exact HB.out | apply below_alloc | apply pw_below_drewN | apply below_drew1) | exact HB.out)⟩⟩
  case rest =>
    clear HC5
    try clear c1
    try clear c2
    try clear p2
    try clear c7
    try clear c7b0
    try clear c7b1
    obtain ⟨kq, x29_4, rfl, HA, HJ4, HB⟩ := hcut
    cases kq with
    | zero => exact absurd HA.out (by simp [mandrelref02_Two.j0])
    | succ kj4 =>
      have H := HA.out
      clear HA
      simp only [mandrelref02_Two.j0] at H
      by_cases c9 : x29_4 = true
      · subst c9
        have H1 : (some (0, 0, false)) = some (r1, r2, r3) := by rw [if_pos rfl] at H; exact H
        clear H
        have H := H1
        clear H1
        simp only [Option.some.injEq, Prod.mk.injEq] at H
        obtain ⟨rfl, rfl, rfl⟩ := H
        go_wp2
        go_ret3
        exact ⟨by first | rfl | (simp [errW_none, errW_some] <;> rfl) | (simp [*, errW_none, errW_some] <;> rfl), by repeat (first | (with_reducible first | exact HB.out | apply below_alloc | apply pw_below_drewN | apply below_drew1) | exact HB.out)⟩
      · replace c9 := Bool.eq_false_iff.mpr c9
        subst c9
        have H1 : ((mandrelref02_low.f a1 t293).bind fun t295 => ((mandrelref02_low.f a2 t293).bind fun t296 => ((mandrelref02_holds.f t292 t295 t296 t293).bind fun bt297 => (if bt297.2 = true then (if bt297.1 = true then (some (1, 0, true)) else (some (0, 0, true))) else (if t292.toList = ([97, 100, 100] : List UInt8) then ((mandrelref02_low.f (IntKind.u64.wrap (t295 + t296)) t293).bind fun t299 => (some (t299, 0, true))) else (if t292.toList = ([115, 117, 98] : List UInt8) then ((mandrelref02_low.f (IntKind.u64.wrap (t295 - t296)) t293).bind fun t300 => (some (t300, 0, true))) else (if t292.toList = ([109, 117, 108] : List UInt8) then ((mandrelref02_low.f (IntKind.u64.wrap (t295 * t296)) t293).bind fun t301 => (some (t301, 0, true))) else (if t292.toList = ([97, 110, 100] : List UInt8) then (mandrelref02_Two.j1 kj4 t295 t296 t292 t293 t292 (t292.toList == ([97, 110, 100] : List UInt8))) else (if t292.toList = ([111, 114] : List UInt8) then (mandrelref02_Two.j1 kj4 t295 t296 t292 t293 t292 (t292.toList == ([111, 114] : List UInt8))) else (mandrelref02_Two.j1 kj4 t295 t296 t292 t293 t292 (t292.toList == ([120, 111, 114] : List UInt8)))))))))))) = some (r1, r2, r3) := by rw [if_neg (show ¬ (false = true) by decide)] at H; exact H
        clear H
        have H := H1
        clear H1
        replace H := Option.bind_eq_some_iff.mp H
        obtain ⟨t295, A100, H⟩ := H
        replace H : ((mandrelref02_low.f a2 t293).bind fun t296 => ((mandrelref02_holds.f t292 t295 t296 t293).bind fun bt297 => (if bt297.2 = true then (if bt297.1 = true then (some (1, 0, true)) else (some (0, 0, true))) else (if t292.toList = ([97, 100, 100] : List UInt8) then ((mandrelref02_low.f (IntKind.u64.wrap (t295 + t296)) t293).bind fun t299 => (some (t299, 0, true))) else (if t292.toList = ([115, 117, 98] : List UInt8) then ((mandrelref02_low.f (IntKind.u64.wrap (t295 - t296)) t293).bind fun t300 => (some (t300, 0, true))) else (if t292.toList = ([109, 117, 108] : List UInt8) then ((mandrelref02_low.f (IntKind.u64.wrap (t295 * t296)) t293).bind fun t301 => (some (t301, 0, true))) else (if t292.toList = ([97, 110, 100] : List UInt8) then (mandrelref02_Two.j1 kj4 t295 t296 t292 t293 t292 (t292.toList == ([97, 110, 100] : List UInt8))) else (if t292.toList = ([111, 114] : List UInt8) then (mandrelref02_Two.j1 kj4 t295 t296 t292 t293 t292 (t292.toList == ([111, 114] : List UInt8))) else (mandrelref02_Two.j1 kj4 t295 t296 t292 t293 t292 (t292.toList == ([120, 111, 114] : List UInt8))))))))))) = some (r1, r2, r3) := H
        have A10 := Aside0.mk A100
        clear A100
        replace H := Option.bind_eq_some_iff.mp H
        obtain ⟨t296, A110, H⟩ := H
        replace H : ((mandrelref02_holds.f t292 t295 t296 t293).bind fun bt297 => (if bt297.2 = true then (if bt297.1 = true then (some (1, 0, true)) else (some (0, 0, true))) else (if t292.toList = ([97, 100, 100] : List UInt8) then ((mandrelref02_low.f (IntKind.u64.wrap (t295 + t296)) t293).bind fun t299 => (some (t299, 0, true))) else (if t292.toList = ([115, 117, 98] : List UInt8) then ((mandrelref02_low.f (IntKind.u64.wrap (t295 - t296)) t293).bind fun t300 => (some (t300, 0, true))) else (if t292.toList = ([109, 117, 108] : List UInt8) then ((mandrelref02_low.f (IntKind.u64.wrap (t295 * t296)) t293).bind fun t301 => (some (t301, 0, true))) else (if t292.toList = ([97, 110, 100] : List UInt8) then (mandrelref02_Two.j1 kj4 t295 t296 t292 t293 t292 (t292.toList == ([97, 110, 100] : List UInt8))) else (if t292.toList = ([111, 114] : List UInt8) then (mandrelref02_Two.j1 kj4 t295 t296 t292 t293 t292 (t292.toList == ([111, 114] : List UInt8))) else (mandrelref02_Two.j1 kj4 t295 t296 t292 t293 t292 (t292.toList == ([120, 111, 114] : List UInt8)))))))))) = some (r1, r2, r3) := H
        have A11 := Aside0.mk A110
        clear A110
        replace H := Option.bind_eq_some_iff.mp H
        obtain ⟨⟨t297, t298⟩, A120, H⟩ := H
        replace H : (if t298 = true then (if t297 = true then (some (1, 0, true)) else (some (0, 0, true))) else (if t292.toList = ([97, 100, 100] : List UInt8) then ((mandrelref02_low.f (IntKind.u64.wrap (t295 + t296)) t293).bind fun t299 => (some (t299, 0, true))) else (if t292.toList = ([115, 117, 98] : List UInt8) then ((mandrelref02_low.f (IntKind.u64.wrap (t295 - t296)) t293).bind fun t300 => (some (t300, 0, true))) else (if t292.toList = ([109, 117, 108] : List UInt8) then ((mandrelref02_low.f (IntKind.u64.wrap (t295 * t296)) t293).bind fun t301 => (some (t301, 0, true))) else (if t292.toList = ([97, 110, 100] : List UInt8) then (mandrelref02_Two.j1 kj4 t295 t296 t292 t293 t292 (t292.toList == ([97, 110, 100] : List UInt8))) else (if t292.toList = ([111, 114] : List UInt8) then (mandrelref02_Two.j1 kj4 t295 t296 t292 t293 t292 (t292.toList == ([111, 114] : List UInt8))) else (mandrelref02_Two.j1 kj4 t295 t296 t292 t293 t292 (t292.toList == ([120, 111, 114] : List UInt8))))))))) = some (r1, r2, r3) := H
        have A12 := Aside0.mk A120
        clear A120
        by_cases c13 : t298 = true
        · subst c13
          have H1 : (if t297 = true then (some (1, 0, true)) else (some (0, 0, true))) = some (r1, r2, r3) := by rw [if_pos rfl] at H; exact H
          clear H
          have H := H1
          clear H1
          by_cases c14 : t297 = true
          · subst c14
            have H1 : (some (1, 0, true)) = some (r1, r2, r3) := by rw [if_pos rfl] at H; exact H
            clear H
            have H := H1
            clear H1
            simp only [Option.some.injEq, Prod.mk.injEq] at H
            obtain ⟨rfl, rfl, rfl⟩ := H
            go_wp2_with (first | ((with_reducible refine gate_callee (f := 26) rfl ?_); refine goesL_ (some 32) rfl rfl Tryd.func26 (by kernel_rfl) rfl #[.int .u64 a1, .int .i64 t293] rfl (by (try simp only [List.map_toArray, List.map_cons, List.map_nil]); first | done | rfl | (simp only [List.length_drop, List.length_take]; rfl)) ?_; (with_reducible refine (mandrelref02_low.calls a1 t293 t295 _ A10.out).mono ?_); rintro e w' ⟨rfl, ⟨nd, rfl⟩⟩; refine ⟨_, rfl, ?_⟩) | ((with_reducible refine gate_callee (f := 26) rfl ?_); refine goesL_ (some 35) rfl rfl Tryd.func26 (by kernel_rfl) rfl #[.int .u64 a2, .int .i64 t293] rfl (by (try simp only [List.map_toArray, List.map_cons, List.map_nil]); first | done | rfl | (simp only [List.length_drop, List.length_take]; rfl)) ?_; (with_reducible refine (mandrelref02_low.calls a2 t293 t296 _ A11.out).mono ?_); rintro e w' ⟨rfl, ⟨nd, rfl⟩⟩; refine ⟨_, rfl, ?_⟩) | ((with_reducible refine gate_callee (f := 29) rfl ?_); refine goesL_ (some 41) rfl rfl Tryd.func29 (by kernel_rfl) rfl #[.string t292, .int .u64 t295, .int .u64 t296, .int .i64 t293] rfl (by (try simp only [List.map_toArray, List.map_cons, List.map_nil]); first | done | rfl | (simp only [List.length_drop, List.length_take]; rfl)) ?_; (with_reducible refine (mandrelref02_holds.calls t292 t295 t296 t293 true true _ A12.out).mono ?_); rintro e w' ⟨rfl, ⟨nd, rfl⟩⟩; refine ⟨_, rfl, ?_⟩))
            go_ret3
            exact ⟨by first | rfl | (simp [errW_none, errW_some] <;> rfl) | (simp [*, errW_none, errW_some] <;> rfl), by repeat (first | (with_reducible first | exact HB.out | apply below_alloc | apply pw_below_drewN | apply below_drew1) | exact HB.out)⟩
          · replace c14 := Bool.eq_false_iff.mpr c14
            subst c14
            have H1 : (some (0, 0, true)) = some (r1, r2, r3) := by rw [if_neg (show ¬ (false = true) by decide)] at H; exact H
            clear H
            have H := H1
            clear H1
            simp only [Option.some.injEq, Prod.mk.injEq] at H
            obtain ⟨rfl, rfl, rfl⟩ := H
            go_wp2_with (first | ((with_reducible refine gate_callee (f := 26) rfl ?_); refine goesL_ (some 32) rfl rfl Tryd.func26 (by kernel_rfl) rfl #[.int .u64 a1, .int .i64 t293] rfl (by (try simp only [List.map_toArray, List.map_cons, List.map_nil]); first | done | rfl | (simp only [List.length_drop, List.length_take]; rfl)) ?_; (with_reducible refine (mandrelref02_low.calls a1 t293 t295 _ A10.out).mono ?_); rintro e w' ⟨rfl, ⟨nd, rfl⟩⟩; refine ⟨_, rfl, ?_⟩) | ((with_reducible refine gate_callee (f := 26) rfl ?_); refine goesL_ (some 35) rfl rfl Tryd.func26 (by kernel_rfl) rfl #[.int .u64 a2, .int .i64 t293] rfl (by (try simp only [List.map_toArray, List.map_cons, List.map_nil]); first | done | rfl | (simp only [List.length_drop, List.length_take]; rfl)) ?_; (with_reducible refine (mandrelref02_low.calls a2 t293 t296 _ A11.out).mono ?_); rintro e w' ⟨rfl, ⟨nd, rfl⟩⟩; refine ⟨_, rfl, ?_⟩) | ((with_reducible refine gate_callee (f := 29) rfl ?_); refine goesL_ (some 41) rfl rfl Tryd.func29 (by kernel_rfl) rfl #[.string t292, .int .u64 t295, .int .u64 t296, .int .i64 t293] rfl (by (try simp only [List.map_toArray, List.map_cons, List.map_nil]); first | done | rfl | (simp only [List.length_drop, List.length_take]; rfl)) ?_; (with_reducible refine (mandrelref02_holds.calls t292 t295 t296 t293 false true _ A12.out).mono ?_); rintro e w' ⟨rfl, ⟨nd, rfl⟩⟩; refine ⟨_, rfl, ?_⟩))
            go_ret3
            exact ⟨by first | rfl | (simp [errW_none, errW_some] <;> rfl) | (simp [*, errW_none, errW_some] <;> rfl), by repeat (first | (with_reducible first | exact HB.out | apply below_alloc | apply pw_below_drewN | apply below_drew1) | exact HB.out)⟩
        · replace c13 := Bool.eq_false_iff.mpr c13
          subst c13
          have H1 : (if t292.toList = ([97, 100, 100] : List UInt8) then ((mandrelref02_low.f (IntKind.u64.wrap (t295 + t296)) t293).bind fun t299 => (some (t299, 0, true))) else (if t292.toList = ([115, 117, 98] : List UInt8) then ((mandrelref02_low.f (IntKind.u64.wrap (t295 - t296)) t293).bind fun t300 => (some (t300, 0, true))) else (if t292.toList = ([109, 117, 108] : List UInt8) then ((mandrelref02_low.f (IntKind.u64.wrap (t295 * t296)) t293).bind fun t301 => (some (t301, 0, true))) else (if t292.toList = ([97, 110, 100] : List UInt8) then (mandrelref02_Two.j1 kj4 t295 t296 t292 t293 t292 (t292.toList == ([97, 110, 100] : List UInt8))) else (if t292.toList = ([111, 114] : List UInt8) then (mandrelref02_Two.j1 kj4 t295 t296 t292 t293 t292 (t292.toList == ([111, 114] : List UInt8))) else (mandrelref02_Two.j1 kj4 t295 t296 t292 t293 t292 (t292.toList == ([120, 111, 114] : List UInt8)))))))) = some (r1, r2, r3) := by rw [if_neg (show ¬ (false = true) by decide)] at H; exact H
          clear H
          have H := H1
          clear H1
          by_cases c15 : t292.toList = ([97, 100, 100] : List UInt8)
          · rw [if_pos c15] at H
            have c15b0 : (t292.toList == ([97, 100, 100] : List UInt8)) = true := beq_iff_eq.mpr c15
            have c15b1 : (t292.toList != ([97, 100, 100] : List UInt8)) = false := bne_eq_false_iff_eq.mpr c15
            clear c15
            replace H := Option.bind_eq_some_iff.mp H
            obtain ⟨t299, A160, H⟩ := H
            replace H : (some (t299, 0, true)) = some (r1, r2, r3) := H
            have A16 := Aside0.mk A160
            clear A160
            simp only [Option.some.injEq, Prod.mk.injEq] at H
            obtain ⟨rfl, rfl, rfl⟩ := H
            go_wp2_with (first | ((with_reducible refine gate_callee (f := 26) rfl ?_); refine goesL_ (some 32) rfl rfl Tryd.func26 (by kernel_rfl) rfl #[.int .u64 a1, .int .i64 t293] rfl (by (try simp only [List.map_toArray, List.map_cons, List.map_nil]); first | done | rfl | (simp only [List.length_drop, List.length_take]; rfl)) ?_; (with_reducible refine (mandrelref02_low.calls a1 t293 t295 _ A10.out).mono ?_); rintro e w' ⟨rfl, ⟨nd, rfl⟩⟩; refine ⟨_, rfl, ?_⟩) | ((with_reducible refine gate_callee (f := 26) rfl ?_); refine goesL_ (some 35) rfl rfl Tryd.func26 (by kernel_rfl) rfl #[.int .u64 a2, .int .i64 t293] rfl (by (try simp only [List.map_toArray, List.map_cons, List.map_nil]); first | done | rfl | (simp only [List.length_drop, List.length_take]; rfl)) ?_; (with_reducible refine (mandrelref02_low.calls a2 t293 t296 _ A11.out).mono ?_); rintro e w' ⟨rfl, ⟨nd, rfl⟩⟩; refine ⟨_, rfl, ?_⟩) | ((with_reducible refine gate_callee (f := 29) rfl ?_); refine goesL_ (some 41) rfl rfl Tryd.func29 (by kernel_rfl) rfl #[.string t292, .int .u64 t295, .int .u64 t296, .int .i64 t293] rfl (by (try simp only [List.map_toArray, List.map_cons, List.map_nil]); first | done | rfl | (simp only [List.length_drop, List.length_take]; rfl)) ?_; (with_reducible refine (mandrelref02_holds.calls t292 t295 t296 t293 t297 false _ A12.out).mono ?_); rintro e w' ⟨rfl, ⟨nd, rfl⟩⟩; refine ⟨_, rfl, ?_⟩) | ((with_reducible refine gate_callee (f := 26) rfl ?_); refine goesL_ (some 53) rfl rfl Tryd.func26 (by kernel_rfl) rfl #[.int .u64 (IntKind.u64.wrap (t295 + t296)), .int .i64 t293] rfl (by (try simp only [List.map_toArray, List.map_cons, List.map_nil]); first | done | rfl | (simp only [List.length_drop, List.length_take]; rfl)) ?_; (with_reducible refine (mandrelref02_low.calls (IntKind.u64.wrap (t295 + t296)) t293 t299 _ A16.out).mono ?_); rintro e w' ⟨rfl, ⟨nd, rfl⟩⟩; refine ⟨_, rfl, ?_⟩))
            go_ret3
            exact ⟨by first | rfl | (simp [errW_none, errW_some] <;> rfl) | (simp [*, errW_none, errW_some] <;> rfl), by repeat (first | (with_reducible first | exact HB.out | apply below_alloc | apply pw_below_drewN | apply below_drew1) | exact HB.out)⟩
          · rw [if_neg c15] at H
            have c15b0 : (t292.toList == ([97, 100, 100] : List UInt8)) = false := beq_eq_false_iff_ne.mpr c15
            have c15b1 : (t292.toList != ([97, 100, 100] : List UInt8)) = true := bne_iff_ne.mpr c15
            by_cases c17 : t292.toList = ([115, 117, 98] : List UInt8)
            · rw [if_pos c17] at H
              have c17b0 : (t292.toList == ([115, 117, 98] : List UInt8)) = true := beq_iff_eq.mpr c17
              have c17b1 : (t292.toList != ([115, 117, 98] : List UInt8)) = false := bne_eq_false_iff_eq.mpr c17
              clear c17
              replace H := Option.bind_eq_some_iff.mp H
              obtain ⟨t300, A180, H⟩ := H
              replace H : (some (t300, 0, true)) = some (r1, r2, r3) := H
              have A18 := Aside0.mk A180
              clear A180
              simp only [Option.some.injEq, Prod.mk.injEq] at H
              obtain ⟨rfl, rfl, rfl⟩ := H
              go_wp2_with (first | ((with_reducible refine gate_callee (f := 26) rfl ?_); refine goesL_ (some 32) rfl rfl Tryd.func26 (by kernel_rfl) rfl #[.int .u64 a1, .int .i64 t293] rfl (by (try simp only [List.map_toArray, List.map_cons, List.map_nil]); first | done | rfl | (simp only [List.length_drop, List.length_take]; rfl)) ?_; (with_reducible refine (mandrelref02_low.calls a1 t293 t295 _ A10.out).mono ?_); rintro e w' ⟨rfl, ⟨nd, rfl⟩⟩; refine ⟨_, rfl, ?_⟩) | ((with_reducible refine gate_callee (f := 26) rfl ?_); refine goesL_ (some 35) rfl rfl Tryd.func26 (by kernel_rfl) rfl #[.int .u64 a2, .int .i64 t293] rfl (by (try simp only [List.map_toArray, List.map_cons, List.map_nil]); first | done | rfl | (simp only [List.length_drop, List.length_take]; rfl)) ?_; (with_reducible refine (mandrelref02_low.calls a2 t293 t296 _ A11.out).mono ?_); rintro e w' ⟨rfl, ⟨nd, rfl⟩⟩; refine ⟨_, rfl, ?_⟩) | ((with_reducible refine gate_callee (f := 29) rfl ?_); refine goesL_ (some 41) rfl rfl Tryd.func29 (by kernel_rfl) rfl #[.string t292, .int .u64 t295, .int .u64 t296, .int .i64 t293] rfl (by (try simp only [List.map_toArray, List.map_cons, List.map_nil]); first | done | rfl | (simp only [List.length_drop, List.length_take]; rfl)) ?_; (with_reducible refine (mandrelref02_holds.calls t292 t295 t296 t293 t297 false _ A12.out).mono ?_); rintro e w' ⟨rfl, ⟨nd, rfl⟩⟩; refine ⟨_, rfl, ?_⟩) | ((with_reducible refine gate_callee (f := 26) rfl ?_); refine goesL_ (some 60) rfl rfl Tryd.func26 (by kernel_rfl) rfl #[.int .u64 (IntKind.u64.wrap (t295 - t296)), .int .i64 t293] rfl (by (try simp only [List.map_toArray, List.map_cons, List.map_nil]); first | done | rfl | (simp only [List.length_drop, List.length_take]; rfl)) ?_; (with_reducible refine (mandrelref02_low.calls (IntKind.u64.wrap (t295 - t296)) t293 t300 _ A18.out).mono ?_); rintro e w' ⟨rfl, ⟨nd, rfl⟩⟩; refine ⟨_, rfl, ?_⟩))
              go_ret3
              exact ⟨by first | rfl | (simp [errW_none, errW_some] <;> rfl) | (simp [*, errW_none, errW_some] <;> rfl), by repeat (first | (with_reducible first | exact HB.out | apply below_alloc | apply pw_below_drewN | apply below_drew1) | exact HB.out)⟩
            · rw [if_neg c17] at H
              have c17b0 : (t292.toList == ([115, 117, 98] : List UInt8)) = false := beq_eq_false_iff_ne.mpr c17
              have c17b1 : (t292.toList != ([115, 117, 98] : List UInt8)) = true := bne_iff_ne.mpr c17
              by_cases c19 : t292.toList = ([109, 117, 108] : List UInt8)
              · rw [if_pos c19] at H
                have c19b0 : (t292.toList == ([109, 117, 108] : List UInt8)) = true := beq_iff_eq.mpr c19
                have c19b1 : (t292.toList != ([109, 117, 108] : List UInt8)) = false := bne_eq_false_iff_eq.mpr c19
                clear c19
                replace H := Option.bind_eq_some_iff.mp H
                obtain ⟨t301, A200, H⟩ := H
                replace H : (some (t301, 0, true)) = some (r1, r2, r3) := H
                have A20 := Aside0.mk A200
                clear A200
                simp only [Option.some.injEq, Prod.mk.injEq] at H
                obtain ⟨rfl, rfl, rfl⟩ := H
                go_wp2_with (first | ((with_reducible refine gate_callee (f := 26) rfl ?_); refine goesL_ (some 32) rfl rfl Tryd.func26 (by kernel_rfl) rfl #[.int .u64 a1, .int .i64 t293] rfl (by (try simp only [List.map_toArray, List.map_cons, List.map_nil]); first | done | rfl | (simp only [List.length_drop, List.length_take]; rfl)) ?_; (with_reducible refine (mandrelref02_low.calls a1 t293 t295 _ A10.out).mono ?_); rintro e w' ⟨rfl, ⟨nd, rfl⟩⟩; refine ⟨_, rfl, ?_⟩) | ((with_reducible refine gate_callee (f := 26) rfl ?_); refine goesL_ (some 35) rfl rfl Tryd.func26 (by kernel_rfl) rfl #[.int .u64 a2, .int .i64 t293] rfl (by (try simp only [List.map_toArray, List.map_cons, List.map_nil]); first | done | rfl | (simp only [List.length_drop, List.length_take]; rfl)) ?_; (with_reducible refine (mandrelref02_low.calls a2 t293 t296 _ A11.out).mono ?_); rintro e w' ⟨rfl, ⟨nd, rfl⟩⟩; refine ⟨_, rfl, ?_⟩) | ((with_reducible refine gate_callee (f := 29) rfl ?_); refine goesL_ (some 41) rfl rfl Tryd.func29 (by kernel_rfl) rfl #[.string t292, .int .u64 t295, .int .u64 t296, .int .i64 t293] rfl (by (try simp only [List.map_toArray, List.map_cons, List.map_nil]); first | done | rfl | (simp only [List.length_drop, List.length_take]; rfl)) ?_; (with_reducible refine (mandrelref02_holds.calls t292 t295 t296 t293 t297 false _ A12.out).mono ?_); rintro e w' ⟨rfl, ⟨nd, rfl⟩⟩; refine ⟨_, rfl, ?_⟩) | ((with_reducible refine gate_callee (f := 26) rfl ?_); refine goesL_ (some 67) rfl rfl Tryd.func26 (by kernel_rfl) rfl #[.int .u64 (IntKind.u64.wrap (t295 * t296)), .int .i64 t293] rfl (by (try simp only [List.map_toArray, List.map_cons, List.map_nil]); first | done | rfl | (simp only [List.length_drop, List.length_take]; rfl)) ?_; (with_reducible refine (mandrelref02_low.calls (IntKind.u64.wrap (t295 * t296)) t293 t301 _ A20.out).mono ?_); rintro e w' ⟨rfl, ⟨nd, rfl⟩⟩; refine ⟨_, rfl, ?_⟩))
                go_ret3
                exact ⟨by first | rfl | (simp [errW_none, errW_some] <;> rfl) | (simp [*, errW_none, errW_some] <;> rfl), by repeat (first | (with_reducible first | exact HB.out | apply below_alloc | apply pw_below_drewN | apply below_drew1) | exact HB.out)⟩
              · rw [if_neg c19] at H
                have c19b0 : (t292.toList == ([109, 117, 108] : List UInt8)) = false := beq_eq_false_iff_ne.mpr c19
                have c19b1 : (t292.toList != ([109, 117, 108] : List UInt8)) = true := bne_iff_ne.mpr c19
                have HC21 := Aside0.mk H
                clear H
                go_upto_if 68 with (first | ((with_reducible refine gate_callee (f := 26) rfl ?_); refine goesL_ (some 32) rfl rfl Tryd.func26 (by kernel_rfl) rfl #[.int .u64 a1, .int .i64 t293] rfl (by (try simp only [List.map_toArray, List.map_cons, List.map_nil]); first | done | rfl | (simp only [List.length_drop, List.length_take]; rfl)) ?_; (with_reducible refine (mandrelref02_low.calls a1 t293 t295 _ A10.out).mono ?_); rintro e w' ⟨rfl, ⟨nd, rfl⟩⟩; refine ⟨_, rfl, ?_⟩) | ((with_reducible refine gate_callee (f := 26) rfl ?_); refine goesL_ (some 35) rfl rfl Tryd.func26 (by kernel_rfl) rfl #[.int .u64 a2, .int .i64 t293] rfl (by (try simp only [List.map_toArray, List.map_cons, List.map_nil]); first | done | rfl | (simp only [List.length_drop, List.length_take]; rfl)) ?_; (with_reducible refine (mandrelref02_low.calls a2 t293 t296 _ A11.out).mono ?_); rintro e w' ⟨rfl, ⟨nd, rfl⟩⟩; refine ⟨_, rfl, ?_⟩) | ((with_reducible refine gate_callee (f := 29) rfl ?_); refine goesL_ (some 41) rfl rfl Tryd.func29 (by kernel_rfl) rfl #[.string t292, .int .u64 t295, .int .u64 t296, .int .i64 t293] rfl (by (try simp only [List.map_toArray, List.map_cons, List.map_nil]); first | done | rfl | (simp only [List.length_drop, List.length_take]; rfl)) ?_; (with_reducible refine (mandrelref02_holds.calls t292 t295 t296 t293 t297 false _ A12.out).mono ?_); rintro e w' ⟨rfl, ⟨nd, rfl⟩⟩; refine ⟨_, rfl, ?_⟩))
                (try simp only [Act.put, List.setIfInBounds_toArray, List.set_cons_zero, List.set_cons_succ])
                go_cut [68] (fun v68 wc => ∃ (kq : Nat) (x68_20 : Bool), v68 = .bool x68_20 ∧ Aside0 (mandrelref02_Two.j1 kq t295 t296 t292 t293 t292 x68_20 = some (r1, r2, r3)) ∧ Aside0 (kq ≤ kj4) ∧ Aside0 (Below w.heap.size w wc))
                case first =>
                  have H := HC21.out
                  clear HC21
                  by_cases c22 : t292.toList = ([97, 110, 100] : List UInt8)
                  · rw [if_pos c22] at H
                    have c22b0 : (t292.toList == ([97, 110, 100] : List UInt8)) = true := beq_iff_eq.mpr c22
                    have c22b1 : (t292.toList != ([97, 110, 100] : List UInt8)) = false := bne_eq_false_iff_eq.mpr c22
                    clear c22
                    (first | rw [c22b0] | (simp only [i64_w, i32_w]; rw [c22b0]) | skip)
                    have H' := Aside0.mk H
                    clear H
                    go_wp2
                    go_meet
                    case rel => exact ⟨_, ((t292.toList == ([97, 110, 100] : List UInt8))), (by first | rfl | (simp; done) | (simp [*]; done)), H', ⟨by have := HJ4.out; first | omega | exact Nat.le_refl _⟩, ⟨by repeat (first | (with_reducible first | exact HB.out | apply below_alloc | apply pw_below_drewN | apply below_drew1) | exact HB.out)⟩⟩
                  · rw [if_neg c22] at H
                    have c22b0 : (t292.toList == ([97, 110, 100] : List UInt8)) = false := beq_eq_false_iff_ne.mpr c22
                    have c22b1 : (t292.toList != ([97, 110, 100] : List UInt8)) = true := bne_iff_ne.mpr c22
                    (first | rw [c22b0] | (simp only [i64_w, i32_w]; rw [c22b0]) | skip)
                    by_cases c23 : t292.toList = ([111, 114] : List UInt8)
                    · rw [if_pos c23] at H
                      have c23b0 : (t292.toList == ([111, 114] : List UInt8)) = true := beq_iff_eq.mpr c23
                      have c23b1 : (t292.toList != ([111, 114] : List UInt8)) = false := bne_eq_false_iff_eq.mpr c23
                      clear c23
                      have H' := Aside0.mk H
                      clear H
                      go_wp2
                      go_meet
                      case rel => exact ⟨_, ((t292.toList == ([111, 114] : List UInt8))), (by first | rfl | (simp; done) | (simp [*]; done)), H', ⟨by have := HJ4.out; first | omega | exact Nat.le_refl _⟩, ⟨by repeat (first | (with_reducible first | exact HB.out | apply below_alloc | apply pw_below_drewN | apply below_drew1) | exact HB.out)⟩⟩
                    · rw [if_neg c23] at H
                      have c23b0 : (t292.toList == ([111, 114] : List UInt8)) = false := beq_eq_false_iff_ne.mpr c23
                      have c23b1 : (t292.toList != ([111, 114] : List UInt8)) = true := bne_iff_ne.mpr c23
                      have H' := Aside0.mk H
                      clear H
                      go_wp2
                      go_meet
                      case rel => exact ⟨_, ((t292.toList == ([120, 111, 114] : List UInt8))), (by first | rfl | (simp; done) | (simp [*]; done)), H', ⟨by have := HJ4.out; first | omega | exact Nat.le_refl _⟩, ⟨by repeat (first | (with_reducible first | exact HB.out | apply below_alloc | apply pw_below_drewN | apply below_drew1) | exact HB.out)⟩⟩
                case rest =>
                  clear HC21
                  try clear c1
                  try clear c2
                  try clear p2
                  try clear c7
                  try clear c7b0
                  try clear c7b1
                  try clear c9
                  try clear c13
                  try clear c14
                  try clear c15
                  try clear c15b0
                  try clear c15b1
                  try clear c17
                  try clear c17b0
                  try clear c17b1
                  try clear c19
                  try clear c19b0
                  try clear c19b1
                  try clear c22
                  try clear c22b0
                  try clear c22b1
                  try clear c23
                  try clear c23b0
                  try clear c23b1
                  try clear p2
                  obtain ⟨kq, x68_20, rfl, HA, HJ20, HB⟩ := hcut
                  cases kq with
                  | zero => exact absurd HA.out (by simp [mandrelref02_Two.j1])
                  | succ kj20 =>
                    have H := HA.out
                    clear HA
                    simp only [mandrelref02_Two.j1] at H
                    by_cases c24 : x68_20 = true
                    · subst c24
                      have H1 : (mandrelref02_Two.l0 kj20 t295 t296 t292 t293 ([] : List Bool) 0) = some (r1, r2, r3) := by rw [if_pos rfl] at H; exact H
                      clear H
                      have H := H1
                      clear H1
                      have H' := Aside0.mk H
                      clear H
                      go_wp2
                      go_loopg [13, 14] kj20 (fun kq v13 v14 w' => ∃ (x13_3 : List Bool) (x14_3 : Int), v14 = .int .i64 x14_3 ∧ Aside0 (mandrelref02_Two.l0 kq t295 t296 t292 t293 x13_3 x14_3 = some (r1, r2, r3)) ∧ Aside0 (kq ≤ kj20) ∧ Aside0 (Kd.R Kd.bool 4 w' w.heap.size (fun _ => True) v13 x13_3) ∧ Aside0 (Below w.heap.size w w'))
                      case atStart => exact ⟨(([] : List Bool)), (0), (by first | rfl | (simp; done) | (simp [*]; done)), H', ⟨Nat.le_refl _⟩, ⟨by first | exact Kd.R_nil _ _ _ _ _ | exact Kd.N_nil _ _ _ _ _ | exact Kd.V_nil _ _ _ _ _ | exact Kd.Q_nil _ _ _ _ _ | exact Kd.S_nil _ _ _ _ _⟩, ⟨by repeat (first | (with_reducible first | exact HB.out | apply below_alloc | apply pw_below_drewN | apply below_drew1) | exact HB.out)⟩⟩
                      case round =>
                        clear H'
                        try clear c1
                        try clear c2
                        try clear p2
                        try clear c7
                        try clear c7b0
                        try clear c7b1
                        try clear c9
                        try clear c13
                        try clear c14
                        try clear c15
                        try clear c15b0
                        try clear c15b1
                        try clear c17
                        try clear c17b0
                        try clear c17b1
                        try clear c19
                        try clear c19b0
                        try clear c19b1
                        try clear c22
                        try clear c22b0
                        try clear c22b1
                        try clear c23
                        try clear c23b0
                        try clear c23b1
                        try clear c24
                        try clear p2
                        obtain ⟨x13_3, x14_3, rfl, HA, HK3, HO_13, HB⟩ := hrel
                        cases gk with
                        | zero => exact absurd HA.out (by simp [mandrelref02_Two.l0])
                        | succ k3 =>
                          have H := HA.out
                          clear HA
                          simp only [mandrelref02_Two.l0] at H
                          by_cases c25 : x14_3 < t293
                          · rw [if_pos c25] at H
                            have c25b0 : decide (x14_3 < t293) = true := decide_eq_true c25
                            clear c25
                            replace H := Option.bind_eq_some_iff.mp H
                            obtain ⟨t302, A260, H⟩ := H
                            replace H : ((mandrelref02_bit.f t296 x14_3).bind fun t303 => (if t292.toList = ([97, 110, 100] : List UInt8) then (if t302 = true then (if t303 = true then (if x13_3.length < 140737488355328 then (mandrelref02_Two.l0 k3 t295 t296 t292 t293 (x13_3 ++ [true]) (wrap64 (x14_3 + 1))) else (none)) else (if t292.toList = ([111, 114] : List UInt8) then (if x13_3.length < 140737488355328 then (mandrelref02_Two.l0 k3 t295 t296 t292 t293 (x13_3 ++ [true]) (wrap64 (x14_3 + 1))) else (none)) else (if t292.toList = ([120, 111, 114] : List UInt8) then (if x13_3.length < 140737488355328 then (mandrelref02_Two.l0 k3 t295 t296 t292 t293 (x13_3 ++ [(t302 != t303)]) (wrap64 (x14_3 + 1))) else (none)) else (if x13_3.length < 140737488355328 then (mandrelref02_Two.l0 k3 t295 t296 t292 t293 (x13_3 ++ [false]) (wrap64 (x14_3 + 1))) else (none))))) else (if t292.toList = ([111, 114] : List UInt8) then (if t303 = true then (if x13_3.length < 140737488355328 then (mandrelref02_Two.l0 k3 t295 t296 t292 t293 (x13_3 ++ [true]) (wrap64 (x14_3 + 1))) else (none)) else (if t292.toList = ([120, 111, 114] : List UInt8) then (if x13_3.length < 140737488355328 then (mandrelref02_Two.l0 k3 t295 t296 t292 t293 (x13_3 ++ [(t302 != t303)]) (wrap64 (x14_3 + 1))) else (none)) else (if x13_3.length < 140737488355328 then (mandrelref02_Two.l0 k3 t295 t296 t292 t293 (x13_3 ++ [false]) (wrap64 (x14_3 + 1))) else (none)))) else (if t292.toList = ([120, 111, 114] : List UInt8) then (if x13_3.length < 140737488355328 then (mandrelref02_Two.l0 k3 t295 t296 t292 t293 (x13_3 ++ [(t302 != t303)]) (wrap64 (x14_3 + 1))) else (none)) else (if x13_3.length < 140737488355328 then (mandrelref02_Two.l0 k3 t295 t296 t292 t293 (x13_3 ++ [false]) (wrap64 (x14_3 + 1))) else (none))))) else (if t292.toList = ([111, 114] : List UInt8) then (if t302 = true then (if x13_3.length < 140737488355328 then (mandrelref02_Two.l0 k3 t295 t296 t292 t293 (x13_3 ++ [true]) (wrap64 (x14_3 + 1))) else (none)) else (if t303 = true then (if x13_3.length < 140737488355328 then (mandrelref02_Two.l0 k3 t295 t296 t292 t293 (x13_3 ++ [true]) (wrap64 (x14_3 + 1))) else (none)) else (if t292.toList = ([120, 111, 114] : List UInt8) then (if x13_3.length < 140737488355328 then (mandrelref02_Two.l0 k3 t295 t296 t292 t293 (x13_3 ++ [(t302 != t303)]) (wrap64 (x14_3 + 1))) else (none)) else (if x13_3.length < 140737488355328 then (mandrelref02_Two.l0 k3 t295 t296 t292 t293 (x13_3 ++ [false]) (wrap64 (x14_3 + 1))) else (none))))) else (if t292.toList = ([120, 111, 114] : List UInt8) then (if x13_3.length < 140737488355328 then (mandrelref02_Two.l0 k3 t295 t296 t292 t293 (x13_3 ++ [(t302 != t303)]) (wrap64 (x14_3 + 1))) else (none)) else (if x13_3.length < 140737488355328 then (mandrelref02_Two.l0 k3 t295 t296 t292 t293 (x13_3 ++ [false]) (wrap64 (x14_3 + 1))) else (none)))))) = some (r1, r2, r3) := H
                            have A26 := Aside0.mk A260
                            clear A260
                            replace H := Option.bind_eq_some_iff.mp H
                            obtain ⟨t303, A270, H⟩ := H
                            replace H : (if t292.toList = ([97, 110, 100] : List UInt8) then (if t302 = true then (if t303 = true then (if x13_3.length < 140737488355328 then (mandrelref02_Two.l0 k3 t295 t296 t292 t293 (x13_3 ++ [true]) (wrap64 (x14_3 + 1))) else (none)) else (if t292.toList = ([111, 114] : List UInt8) then (if x13_3.length < 140737488355328 then (mandrelref02_Two.l0 k3 t295 t296 t292 t293 (x13_3 ++ [true]) (wrap64 (x14_3 + 1))) else (none)) else (if t292.toList = ([120, 111, 114] : List UInt8) then (if x13_3.length < 140737488355328 then (mandrelref02_Two.l0 k3 t295 t296 t292 t293 (x13_3 ++ [(t302 != t303)]) (wrap64 (x14_3 + 1))) else (none)) else (if x13_3.length < 140737488355328 then (mandrelref02_Two.l0 k3 t295 t296 t292 t293 (x13_3 ++ [false]) (wrap64 (x14_3 + 1))) else (none))))) else (if t292.toList = ([111, 114] : List UInt8) then (if t303 = true then (if x13_3.length < 140737488355328 then (mandrelref02_Two.l0 k3 t295 t296 t292 t293 (x13_3 ++ [true]) (wrap64 (x14_3 + 1))) else (none)) else (if t292.toList = ([120, 111, 114] : List UInt8) then (if x13_3.length < 140737488355328 then (mandrelref02_Two.l0 k3 t295 t296 t292 t293 (x13_3 ++ [(t302 != t303)]) (wrap64 (x14_3 + 1))) else (none)) else (if x13_3.length < 140737488355328 then (mandrelref02_Two.l0 k3 t295 t296 t292 t293 (x13_3 ++ [false]) (wrap64 (x14_3 + 1))) else (none)))) else (if t292.toList = ([120, 111, 114] : List UInt8) then (if x13_3.length < 140737488355328 then (mandrelref02_Two.l0 k3 t295 t296 t292 t293 (x13_3 ++ [(t302 != t303)]) (wrap64 (x14_3 + 1))) else (none)) else (if x13_3.length < 140737488355328 then (mandrelref02_Two.l0 k3 t295 t296 t292 t293 (x13_3 ++ [false]) (wrap64 (x14_3 + 1))) else (none))))) else (if t292.toList = ([111, 114] : List UInt8) then (if t302 = true then (if x13_3.length < 140737488355328 then (mandrelref02_Two.l0 k3 t295 t296 t292 t293 (x13_3 ++ [true]) (wrap64 (x14_3 + 1))) else (none)) else (if t303 = true then (if x13_3.length < 140737488355328 then (mandrelref02_Two.l0 k3 t295 t296 t292 t293 (x13_3 ++ [true]) (wrap64 (x14_3 + 1))) else (none)) else (if t292.toList = ([120, 111, 114] : List UInt8) then (if x13_3.length < 140737488355328 then (mandrelref02_Two.l0 k3 t295 t296 t292 t293 (x13_3 ++ [(t302 != t303)]) (wrap64 (x14_3 + 1))) else (none)) else (if x13_3.length < 140737488355328 then (mandrelref02_Two.l0 k3 t295 t296 t292 t293 (x13_3 ++ [false]) (wrap64 (x14_3 + 1))) else (none))))) else (if t292.toList = ([120, 111, 114] : List UInt8) then (if x13_3.length < 140737488355328 then (mandrelref02_Two.l0 k3 t295 t296 t292 t293 (x13_3 ++ [(t302 != t303)]) (wrap64 (x14_3 + 1))) else (none)) else (if x13_3.length < 140737488355328 then (mandrelref02_Two.l0 k3 t295 t296 t292 t293 (x13_3 ++ [false]) (wrap64 (x14_3 + 1))) else (none))))) = some (r1, r2, r3) := H
                            have A27 := Aside0.mk A270
                            clear A270
                            by_cases c28 : t292.toList = ([97, 110, 100] : List UInt8)
                            · rw [if_pos c28] at H
                              have c28b0 : (t292.toList == ([97, 110, 100] : List UInt8)) = true := beq_iff_eq.mpr c28
                              have c28b1 : (t292.toList != ([97, 110, 100] : List UInt8)) = false := bne_eq_false_iff_eq.mpr c28
                              clear c28
                              by_cases c29 : t302 = true
                              · subst c29
                                have H1 : (if t303 = true then (if x13_3.length < 140737488355328 then (mandrelref02_Two.l0 k3 t295 t296 t292 t293 (x13_3 ++ [true]) (wrap64 (x14_3 + 1))) else (none)) else (if t292.toList = ([111, 114] : List UInt8) then (if x13_3.length < 140737488355328 then (mandrelref02_Two.l0 k3 t295 t296 t292 t293 (x13_3 ++ [true]) (wrap64 (x14_3 + 1))) else (none)) else (if t292.toList = ([120, 111, 114] : List UInt8) then (if x13_3.length < 140737488355328 then (mandrelref02_Two.l0 k3 t295 t296 t292 t293 (x13_3 ++ [(true != t303)]) (wrap64 (x14_3 + 1))) else (none)) else (if x13_3.length < 140737488355328 then (mandrelref02_Two.l0 k3 t295 t296 t292 t293 (x13_3 ++ [false]) (wrap64 (x14_3 + 1))) else (none))))) = some (r1, r2, r3) := by rw [if_pos rfl] at H; exact H
                                clear H
                                have H := H1
                                clear H1
                                by_cases c30 : t303 = true
                                · subst c30
                                  have H1 : (if x13_3.length < 140737488355328 then (mandrelref02_Two.l0 k3 t295 t296 t292 t293 (x13_3 ++ [true]) (wrap64 (x14_3 + 1))) else (none)) = some (r1, r2, r3) := by rw [if_pos rfl] at H; exact H
                                  clear H
                                  have H := H1
                                  clear H1
                                  by_cases c31 : x13_3.length < 140737488355328
                                  · rw [if_pos c31] at H
                                    have LMc31 := Aside0.mk c31
                                    clear c31
                                    obtain ⟨y304, hy304⟩ : ∃ y_ : List Bool, y_ = (x13_3 ++ [true]) := ⟨_, rfl⟩
                                    replace H : (mandrelref02_Two.l0 k3 t295 t296 t292 t293 y304 (wrap64 (x14_3 + 1))) = some (r1, r2, r3) := by first | (rw [hy304]; with_reducible exact H) | (have H2_ := (Option.bind_some _ _).symm.trans H; rw [hy304]; with_reducible exact H2_) | (have H2_ := (Option.bind_some _ _).symm.trans H; with_reducible exact H2_) | with_reducible exact H | (rw [hy304]; exact H) | exact H
                                    have Ny304 := Aside0.mk hy304
                                    clear hy304
                                    have H' := Aside0.mk H
                                    clear H
                                    go_wp2_with (first | ((with_reducible refine gate_callee (f := 27) rfl ?_); refine goesL_ (some 79) rfl rfl Tryd.func27 (by kernel_rfl) rfl #[.int .u64 t295, .int .i64 x14_3] rfl (by (try simp only [List.map_toArray, List.map_cons, List.map_nil]); first | done | rfl | (simp only [List.length_drop, List.length_take]; rfl)) ?_; (with_reducible refine (mandrelref02_bit.calls t295 x14_3 true _ A26.out).mono ?_); rintro e w' ⟨rfl, ⟨nd, rfl⟩⟩; refine ⟨_, rfl, ?_⟩) | ((with_reducible refine gate_callee (f := 27) rfl ?_); refine goesL_ (some 82) rfl rfl Tryd.func27 (by kernel_rfl) rfl #[.int .u64 t296, .int .i64 x14_3] rfl (by (try simp only [List.map_toArray, List.map_cons, List.map_nil]); first | done | rfl | (simp only [List.length_drop, List.length_take]; rfl)) ?_; (with_reducible refine (mandrelref02_bit.calls t296 x14_3 true _ A27.out).mono ?_); rintro e w' ⟨rfl, ⟨nd, rfl⟩⟩; refine ⟨_, rfl, ?_⟩) | ((with_reducible refine gate_builtin (b := .append) (xs := #[.tmp 83, .tmp 111]) rfl ?_); at_builtin; refine Kd.R_append Kd.bool (w0 := w) w.heap.size rfl (.tmp 83) (.tmp 111) 63 4 (.bool false) 1 rfl Tryd.underlying63 info4 rfl (by decide) (by omega) u13 x13_3 true [.bool true] (fun _ => True) (fun _ => False) rfl rfl ?aP (fun _ hk => hk.elim) ?aF ?aO ?aB ?aS ?aL ?_; (case aP => exact rfl); (case aB => exact (by repeat (first | (with_reducible first | exact HB.out | apply below_alloc | apply pw_below_drewN | apply below_drew1) | exact HB.out))); (case aF => exact (fun _ _ => trivial)); (case aO => exact (by (with_reducible repeat (first | apply Kd.R_alloc | apply Kd.R_drewN | apply Kd.R_drew)); exact HO_13.out)); (case aS => exact (below_size (by repeat (first | (with_reducible first | exact HB.out | apply below_alloc | apply pw_below_drewN | apply below_drew1) | exact HB.out)))); (case aL => have := LMc31.out; omega); intro v305 w32 ho hb hg hat; rw [← Ny304.out] at ho; have n0_ := Aside0.mk (hb); have n1_ := Aside0.mk (ho); clear HB; clear HO_13; have HB := n0_; have HO306 := n1_; clear n0_ n1_; clear ho hb hg hat))
                                    go_roundg k3
                                    case measure => have := HJ4.out; have := HJ20.out; have := HK3.out; omega
                                    case rel => exact ⟨(y304), (wrap64 (x14_3 + 1)), (by first | rfl | (simp; done) | (simp [*]; done)), H', ⟨by have := HJ4.out; have := HJ20.out; have := HK3.out; omega⟩, ⟨by (with_reducible repeat (first | apply Kd.R_alloc | apply Kd.R_drewN | apply Kd.R_drew)); exact HO306.out⟩, ⟨by repeat (first | (with_reducible first | exact HB.out | apply below_alloc | apply pw_below_drewN | apply below_drew1) | exact HB.out)⟩⟩
                                  · rw [if_neg c31] at H
                                    exact absurd H (by simp)
                                · replace c30 := Bool.eq_false_iff.mpr c30
                                  subst c30
                                  have H1 : (if t292.toList = ([111, 114] : List UInt8) then (if x13_3.length < 140737488355328 then (mandrelref02_Two.l0 k3 t295 t296 t292 t293 (x13_3 ++ [true]) (wrap64 (x14_3 + 1))) else (none)) else (if t292.toList = ([120, 111, 114] : List UInt8) then (if x13_3.length < 140737488355328 then (mandrelref02_Two.l0 k3 t295 t296 t292 t293 (x13_3 ++ [(true != false)]) (wrap64 (x14_3 + 1))) else (none)) else (if x13_3.length < 140737488355328 then (mandrelref02_Two.l0 k3 t295 t296 t292 t293 (x13_3 ++ [false]) (wrap64 (x14_3 + 1))) else (none)))) = some (r1, r2, r3) := by rw [if_neg (show ¬ (false = true) by decide)] at H; exact H
                                  clear H
                                  have H := H1
                                  clear H1
                                  by_cases c33 : t292.toList = ([111, 114] : List UInt8)
                                  · rw [if_pos c33] at H
                                    have c33b0 : (t292.toList == ([111, 114] : List UInt8)) = true := beq_iff_eq.mpr c33
                                    have c33b1 : (t292.toList != ([111, 114] : List UInt8)) = false := bne_eq_false_iff_eq.mpr c33
                                    clear c33
                                    by_cases c34 : x13_3.length < 140737488355328
                                    · rw [if_pos c34] at H
                                      have LMc34 := Aside0.mk c34
                                      clear c34
                                      obtain ⟨y307, hy307⟩ : ∃ y_ : List Bool, y_ = (x13_3 ++ [true]) := ⟨_, rfl⟩
                                      replace H : (mandrelref02_Two.l0 k3 t295 t296 t292 t293 y307 (wrap64 (x14_3 + 1))) = some (r1, r2, r3) := by first | (rw [hy307]; with_reducible exact H) | (have H2_ := (Option.bind_some _ _).symm.trans H; rw [hy307]; with_reducible exact H2_) | (have H2_ := (Option.bind_some _ _).symm.trans H; with_reducible exact H2_) | with_reducible exact H | (rw [hy307]; exact H) | exact H
                                      have Ny307 := Aside0.mk hy307
                                      clear hy307
                                      have H' := Aside0.mk H
                                      clear H
                                      go_wp2_with (first | ((with_reducible refine gate_callee (f := 27) rfl ?_); refine goesL_ (some 79) rfl rfl Tryd.func27 (by kernel_rfl) rfl #[.int .u64 t295, .int .i64 x14_3] rfl (by (try simp only [List.map_toArray, List.map_cons, List.map_nil]); first | done | rfl | (simp only [List.length_drop, List.length_take]; rfl)) ?_; (with_reducible refine (mandrelref02_bit.calls t295 x14_3 true _ A26.out).mono ?_); rintro e w' ⟨rfl, ⟨nd, rfl⟩⟩; refine ⟨_, rfl, ?_⟩) | ((with_reducible refine gate_callee (f := 27) rfl ?_); refine goesL_ (some 82) rfl rfl Tryd.func27 (by kernel_rfl) rfl #[.int .u64 t296, .int .i64 x14_3] rfl (by (try simp only [List.map_toArray, List.map_cons, List.map_nil]); first | done | rfl | (simp only [List.length_drop, List.length_take]; rfl)) ?_; (with_reducible refine (mandrelref02_bit.calls t296 x14_3 false _ A27.out).mono ?_); rintro e w' ⟨rfl, ⟨nd, rfl⟩⟩; refine ⟨_, rfl, ?_⟩) | ((with_reducible refine gate_builtin (b := .append) (xs := #[.tmp 83, .tmp 111]) rfl ?_); at_builtin; refine Kd.R_append Kd.bool (w0 := w) w.heap.size rfl (.tmp 83) (.tmp 111) 63 4 (.bool false) 1 rfl Tryd.underlying63 info4 rfl (by decide) (by omega) u13 x13_3 true [.bool true] (fun _ => True) (fun _ => False) rfl rfl ?aP (fun _ hk => hk.elim) ?aF ?aO ?aB ?aS ?aL ?_; (case aP => exact rfl); (case aB => exact (by repeat (first | (with_reducible first | exact HB.out | apply below_alloc | apply pw_below_drewN | apply below_drew1) | exact HB.out))); (case aF => exact (fun _ _ => trivial)); (case aO => exact (by (with_reducible repeat (first | apply Kd.R_alloc | apply Kd.R_drewN | apply Kd.R_drew)); exact HO_13.out)); (case aS => exact (below_size (by repeat (first | (with_reducible first | exact HB.out | apply below_alloc | apply pw_below_drewN | apply below_drew1) | exact HB.out)))); (case aL => have := LMc34.out; omega); intro v308 w35 ho hb hg hat; rw [← Ny307.out] at ho; have n0_ := Aside0.mk (hb); have n1_ := Aside0.mk (ho); clear HB; clear HO_13; have HB := n0_; have HO309 := n1_; clear n0_ n1_; clear ho hb hg hat))
                                      go_roundg k3
                                      case measure => have := HJ4.out; have := HJ20.out; have := HK3.out; omega
                                      case rel => exact ⟨(y307), (wrap64 (x14_3 + 1)), (by first | rfl | (simp; done) | (simp [*]; done)), H', ⟨by have := HJ4.out; have := HJ20.out; have := HK3.out; omega⟩, ⟨by (with_reducible repeat (first | apply Kd.R_alloc | apply Kd.R_drewN | apply Kd.R_drew)); exact HO309.out⟩, ⟨by repeat (first | (with_reducible first | exact HB.out | apply below_alloc | apply pw_below_drewN | apply below_drew1) | exact HB.out)⟩⟩
                                    · rw [if_neg c34] at H
                                      exact absurd H (by simp)
                                  · rw [if_neg c33] at H
                                    have c33b0 : (t292.toList == ([111, 114] : List UInt8)) = false := beq_eq_false_iff_ne.mpr c33
                                    have c33b1 : (t292.toList != ([111, 114] : List UInt8)) = true := bne_iff_ne.mpr c33
                                    by_cases c36 : t292.toList = ([120, 111, 114] : List UInt8)
                                    · rw [if_pos c36] at H
                                      have c36b0 : (t292.toList == ([120, 111, 114] : List UInt8)) = true := beq_iff_eq.mpr c36
                                      have c36b1 : (t292.toList != ([120, 111, 114] : List UInt8)) = false := bne_eq_false_iff_eq.mpr c36
                                      clear c36
                                      by_cases c37 : x13_3.length < 140737488355328
                                      · rw [if_pos c37] at H
                                        have LMc37 := Aside0.mk c37
                                        clear c37
                                        obtain ⟨y310, hy310⟩ : ∃ y_ : List Bool, y_ = (x13_3 ++ [(true != false)]) := ⟨_, rfl⟩
                                        replace H : (mandrelref02_Two.l0 k3 t295 t296 t292 t293 y310 (wrap64 (x14_3 + 1))) = some (r1, r2, r3) := by first | (rw [hy310]; with_reducible exact H) | (have H2_ := (Option.bind_some _ _).symm.trans H; rw [hy310]; with_reducible exact H2_) | (have H2_ := (Option.bind_some _ _).symm.trans H; with_reducible exact H2_) | with_reducible exact H | (rw [hy310]; exact H) | exact H
                                        have Ny310 := Aside0.mk hy310
                                        clear hy310
                                        have H' := Aside0.mk H
                                        clear H
                                        go_wp2_with (first | ((with_reducible refine gate_callee (f := 27) rfl ?_); refine goesL_ (some 79) rfl rfl Tryd.func27 (by kernel_rfl) rfl #[.int .u64 t295, .int .i64 x14_3] rfl (by (try simp only [List.map_toArray, List.map_cons, List.map_nil]); first | done | rfl | (simp only [List.length_drop, List.length_take]; rfl)) ?_; (with_reducible refine (mandrelref02_bit.calls t295 x14_3 true _ A26.out).mono ?_); rintro e w' ⟨rfl, ⟨nd, rfl⟩⟩; refine ⟨_, rfl, ?_⟩) | ((with_reducible refine gate_callee (f := 27) rfl ?_); refine goesL_ (some 82) rfl rfl Tryd.func27 (by kernel_rfl) rfl #[.int .u64 t296, .int .i64 x14_3] rfl (by (try simp only [List.map_toArray, List.map_cons, List.map_nil]); first | done | rfl | (simp only [List.length_drop, List.length_take]; rfl)) ?_; (with_reducible refine (mandrelref02_bit.calls t296 x14_3 false _ A27.out).mono ?_); rintro e w' ⟨rfl, ⟨nd, rfl⟩⟩; refine ⟨_, rfl, ?_⟩) | ((with_reducible refine gate_builtin (b := .append) (xs := #[.tmp 83, .tmp 111]) rfl ?_); at_builtin; refine Kd.R_append Kd.bool (w0 := w) w.heap.size rfl (.tmp 83) (.tmp 111) 63 4 (.bool false) 1 rfl Tryd.underlying63 info4 rfl (by decide) (by omega) u13 x13_3 (true != false) [.bool (true != false)] (fun _ => True) (fun _ => False) rfl rfl ?aP (fun _ hk => hk.elim) ?aF ?aO ?aB ?aS ?aL ?_; (case aP => exact rfl); (case aB => exact (by repeat (first | (with_reducible first | exact HB.out | apply below_alloc | apply pw_below_drewN | apply below_drew1) | exact HB.out))); (case aF => exact (fun _ _ => trivial)); (case aO => exact (by (with_reducible repeat (first | apply Kd.R_alloc | apply Kd.R_drewN | apply Kd.R_drew)); exact HO_13.out)); (case aS => exact (below_size (by repeat (first | (with_reducible first | exact HB.out | apply below_alloc | apply pw_below_drewN | apply below_drew1) | exact HB.out)))); (case aL => have := LMc37.out; omega); intro v311 w38 ho hb hg hat; rw [← Ny310.out] at ho; have n0_ := Aside0.mk (hb); have n1_ := Aside0.mk (ho); clear HB; clear HO_13; have HB := n0_; have HO312 := n1_; clear n0_ n1_; clear ho hb hg hat))
                                        go_roundg k3
                                        case measure => have := HJ4.out; have := HJ20.out; have := HK3.out; omega
                                        case rel => exact ⟨(y310), (wrap64 (x14_3 + 1)), (by first | rfl | (simp; done) | (simp [*]; done)), H', ⟨by have := HJ4.out; have := HJ20.out; have := HK3.out; omega⟩, ⟨by (with_reducible repeat (first | apply Kd.R_alloc | apply Kd.R_drewN | apply Kd.R_drew)); exact HO312.out⟩, ⟨by repeat (first | (with_reducible first | exact HB.out | apply below_alloc | apply pw_below_drewN | apply below_drew1) | exact HB.out)⟩⟩
                                      · rw [if_neg c37] at H
                                        exact absurd H (by simp)
                                    · rw [if_neg c36] at H
                                      have c36b0 : (t292.toList == ([120, 111, 114] : List UInt8)) = false := beq_eq_false_iff_ne.mpr c36
                                      have c36b1 : (t292.toList != ([120, 111, 114] : List UInt8)) = true := bne_iff_ne.mpr c36
                                      by_cases c39 : x13_3.length < 140737488355328
                                      · rw [if_pos c39] at H
                                        have LMc39 := Aside0.mk c39
                                        clear c39
                                        obtain ⟨y313, hy313⟩ : ∃ y_ : List Bool, y_ = (x13_3 ++ [false]) := ⟨_, rfl⟩
                                        replace H : (mandrelref02_Two.l0 k3 t295 t296 t292 t293 y313 (wrap64 (x14_3 + 1))) = some (r1, r2, r3) := by first | (rw [hy313]; with_reducible exact H) | (have H2_ := (Option.bind_some _ _).symm.trans H; rw [hy313]; with_reducible exact H2_) | (have H2_ := (Option.bind_some _ _).symm.trans H; with_reducible exact H2_) | with_reducible exact H | (rw [hy313]; exact H) | exact H
                                        have Ny313 := Aside0.mk hy313
                                        clear hy313
                                        have H' := Aside0.mk H
                                        clear H
                                        go_wp2_with (first | ((with_reducible refine gate_callee (f := 27) rfl ?_); refine goesL_ (some 79) rfl rfl Tryd.func27 (by kernel_rfl) rfl #[.int .u64 t295, .int .i64 x14_3] rfl (by (try simp only [List.map_toArray, List.map_cons, List.map_nil]); first | done | rfl | (simp only [List.length_drop, List.length_take]; rfl)) ?_; (with_reducible refine (mandrelref02_bit.calls t295 x14_3 true _ A26.out).mono ?_); rintro e w' ⟨rfl, ⟨nd, rfl⟩⟩; refine ⟨_, rfl, ?_⟩) | ((with_reducible refine gate_callee (f := 27) rfl ?_); refine goesL_ (some 82) rfl rfl Tryd.func27 (by kernel_rfl) rfl #[.int .u64 t296, .int .i64 x14_3] rfl (by (try simp only [List.map_toArray, List.map_cons, List.map_nil]); first | done | rfl | (simp only [List.length_drop, List.length_take]; rfl)) ?_; (with_reducible refine (mandrelref02_bit.calls t296 x14_3 false _ A27.out).mono ?_); rintro e w' ⟨rfl, ⟨nd, rfl⟩⟩; refine ⟨_, rfl, ?_⟩) | ((with_reducible refine gate_builtin (b := .append) (xs := #[.tmp 83, .tmp 111]) rfl ?_); at_builtin; refine Kd.R_append Kd.bool (w0 := w) w.heap.size rfl (.tmp 83) (.tmp 111) 63 4 (.bool false) 1 rfl Tryd.underlying63 info4 rfl (by decide) (by omega) u13 x13_3 false [.bool false] (fun _ => True) (fun _ => False) rfl rfl ?aP (fun _ hk => hk.elim) ?aF ?aO ?aB ?aS ?aL ?_; (case aP => exact rfl); (case aB => exact (by repeat (first | (with_reducible first | exact HB.out | apply below_alloc | apply pw_below_drewN | apply below_drew1) | exact HB.out))); (case aF => exact (fun _ _ => trivial)); (case aO => exact (by (with_reducible repeat (first | apply Kd.R_alloc | apply Kd.R_drewN | apply Kd.R_drew)); exact HO_13.out)); (case aS => exact (below_size (by repeat (first | (with_reducible first | exact HB.out | apply below_alloc | apply pw_below_drewN | apply below_drew1) | exact HB.out)))); (case aL => have := LMc39.out; omega); intro v314 w40 ho hb hg hat; rw [← Ny313.out] at ho; have n0_ := Aside0.mk (hb); have n1_ := Aside0.mk (ho); clear HB; clear HO_13; have HB := n0_; have HO315 := n1_; clear n0_ n1_; clear ho hb hg hat))
                                        go_roundg k3
                                        case measure => have := HJ4.out; have := HJ20.out; have := HK3.out; omega
                                        case rel => exact ⟨(y313), (wrap64 (x14_3 + 1)), (by first | rfl | (simp; done) | (simp [*]; done)), H', ⟨by have := HJ4.out; have := HJ20.out; have := HK3.out; omega⟩, ⟨by (with_reducible repeat (first | apply Kd.R_alloc | apply Kd.R_drewN | apply Kd.R_drew)); exact HO315.out⟩, ⟨by repeat (first | (with_reducible first | exact HB.out | apply below_alloc | apply pw_below_drewN | apply below_drew1) | exact HB.out)⟩⟩
                                      · rw [if_neg c39] at H
                                        exact absurd H (by simp)
                              · replace c29 := Bool.eq_false_iff.mpr c29
                                subst c29
                                have H1 : (if t292.toList = ([111, 114] : List UInt8) then (if t303 = true then (if x13_3.length < 140737488355328 then (mandrelref02_Two.l0 k3 t295 t296 t292 t293 (x13_3 ++ [true]) (wrap64 (x14_3 + 1))) else (none)) else (if t292.toList = ([120, 111, 114] : List UInt8) then (if x13_3.length < 140737488355328 then (mandrelref02_Two.l0 k3 t295 t296 t292 t293 (x13_3 ++ [(false != t303)]) (wrap64 (x14_3 + 1))) else (none)) else (if x13_3.length < 140737488355328 then (mandrelref02_Two.l0 k3 t295 t296 t292 t293 (x13_3 ++ [false]) (wrap64 (x14_3 + 1))) else (none)))) else (if t292.toList = ([120, 111, 114] : List UInt8) then (if x13_3.length < 140737488355328 then (mandrelref02_Two.l0 k3 t295 t296 t292 t293 (x13_3 ++ [(false != t303)]) (wrap64 (x14_3 + 1))) else (none)) else (if x13_3.length < 140737488355328 then (mandrelref02_Two.l0 k3 t295 t296 t292 t293 (x13_3 ++ [false]) (wrap64 (x14_3 + 1))) else (none)))) = some (r1, r2, r3) := by rw [if_neg (show ¬ (false = true) by decide)] at H; exact H
                                clear H
                                have H := H1
                                clear H1
                                by_cases c41 : t292.toList = ([111, 114] : List UInt8)
                                · rw [if_pos c41] at H
                                  have c41b0 : (t292.toList == ([111, 114] : List UInt8)) = true := beq_iff_eq.mpr c41
                                  have c41b1 : (t292.toList != ([111, 114] : List UInt8)) = false := bne_eq_false_iff_eq.mpr c41
                                  clear c41
                                  by_cases c42 : t303 = true
                                  · subst c42
                                    have H1 : (if x13_3.length < 140737488355328 then (mandrelref02_Two.l0 k3 t295 t296 t292 t293 (x13_3 ++ [true]) (wrap64 (x14_3 + 1))) else (none)) = some (r1, r2, r3) := by rw [if_pos rfl] at H; exact H
                                    clear H
                                    have H := H1
                                    clear H1
                                    by_cases c43 : x13_3.length < 140737488355328
                                    · rw [if_pos c43] at H
                                      have LMc43 := Aside0.mk c43
                                      clear c43
                                      obtain ⟨y316, hy316⟩ : ∃ y_ : List Bool, y_ = (x13_3 ++ [true]) := ⟨_, rfl⟩
                                      replace H : (mandrelref02_Two.l0 k3 t295 t296 t292 t293 y316 (wrap64 (x14_3 + 1))) = some (r1, r2, r3) := by first | (rw [hy316]; with_reducible exact H) | (have H2_ := (Option.bind_some _ _).symm.trans H; rw [hy316]; with_reducible exact H2_) | (have H2_ := (Option.bind_some _ _).symm.trans H; with_reducible exact H2_) | with_reducible exact H | (rw [hy316]; exact H) | exact H
                                      have Ny316 := Aside0.mk hy316
                                      clear hy316
                                      have H' := Aside0.mk H
                                      clear H
                                      go_wp2_with (first | ((with_reducible refine gate_callee (f := 27) rfl ?_); refine goesL_ (some 79) rfl rfl Tryd.func27 (by kernel_rfl) rfl #[.int .u64 t295, .int .i64 x14_3] rfl (by (try simp only [List.map_toArray, List.map_cons, List.map_nil]); first | done | rfl | (simp only [List.length_drop, List.length_take]; rfl)) ?_; (with_reducible refine (mandrelref02_bit.calls t295 x14_3 false _ A26.out).mono ?_); rintro e w' ⟨rfl, ⟨nd, rfl⟩⟩; refine ⟨_, rfl, ?_⟩) | ((with_reducible refine gate_callee (f := 27) rfl ?_); refine goesL_ (some 82) rfl rfl Tryd.func27 (by kernel_rfl) rfl #[.int .u64 t296, .int .i64 x14_3] rfl (by (try simp only [List.map_toArray, List.map_cons, List.map_nil]); first | done | rfl | (simp only [List.length_drop, List.length_take]; rfl)) ?_; (with_reducible refine (mandrelref02_bit.calls t296 x14_3 true _ A27.out).mono ?_); rintro e w' ⟨rfl, ⟨nd, rfl⟩⟩; refine ⟨_, rfl, ?_⟩) | ((with_reducible refine gate_builtin (b := .append) (xs := #[.tmp 83, .tmp 111]) rfl ?_); at_builtin; refine Kd.R_append Kd.bool (w0 := w) w.heap.size rfl (.tmp 83) (.tmp 111) 63 4 (.bool false) 1 rfl Tryd.underlying63 info4 rfl (by decide) (by omega) u13 x13_3 true [.bool true] (fun _ => True) (fun _ => False) rfl rfl ?aP (fun _ hk => hk.elim) ?aF ?aO ?aB ?aS ?aL ?_; (case aP => exact rfl); (case aB => exact (by repeat (first | (with_reducible first | exact HB.out | apply below_alloc | apply pw_below_drewN | apply below_drew1) | exact HB.out))); (case aF => exact (fun _ _ => trivial)); (case aO => exact (by (with_reducible repeat (first | apply Kd.R_alloc | apply Kd.R_drewN | apply Kd.R_drew)); exact HO_13.out)); (case aS => exact (below_size (by repeat (first | (with_reducible first | exact HB.out | apply below_alloc | apply pw_below_drewN | apply below_drew1) | exact HB.out)))); (case aL => have := LMc43.out; omega); intro v317 w44 ho hb hg hat; rw [← Ny316.out] at ho; have n0_ := Aside0.mk (hb); have n1_ := Aside0.mk (ho); clear HB; clear HO_13; have HB := n0_; have HO318 := n1_; clear n0_ n1_; clear ho hb hg hat))
                                      go_roundg k3
                                      case measure => have := HJ4.out; have := HJ20.out; have := HK3.out; omega
                                      case rel => exact ⟨(y316), (wrap64 (x14_3 + 1)), (by first | rfl | (simp; done) | (simp [*]; done)), H', ⟨by have := HJ4.out; have := HJ20.out; have := HK3.out; omega⟩, ⟨by (with_reducible repeat (first | apply Kd.R_alloc | apply Kd.R_drewN | apply Kd.R_drew)); exact HO318.out⟩, ⟨by repeat (first | (with_reducible first | exact HB.out | apply below_alloc | apply pw_below_drewN | apply below_drew1) | exact HB.out)⟩⟩
                                    · rw [if_neg c43] at H
                                      exact absurd H (by simp)
                                  · replace c42 := Bool.eq_false_iff.mpr c42
                                    subst c42
                                    have H1 : (if t292.toList = ([120, 111, 114] : List UInt8) then (if x13_3.length < 140737488355328 then (mandrelref02_Two.l0 k3 t295 t296 t292 t293 (x13_3 ++ [(false != false)]) (wrap64 (x14_3 + 1))) else (none)) else (if x13_3.length < 140737488355328 then (mandrelref02_Two.l0 k3 t295 t296 t292 t293 (x13_3 ++ [false]) (wrap64 (x14_3 + 1))) else (none))) = some (r1, r2, r3) := by rw [if_neg (show ¬ (false = true) by decide)] at H; exact H
                                    clear H
                                    have H := H1
                                    clear H1
                                    by_cases c45 : t292.toList = ([120, 111, 114] : List UInt8)
                                    · rw [if_pos c45] at H
                                      have c45b0 : (t292.toList == ([120, 111, 114] : List UInt8)) = true := beq_iff_eq.mpr c45
                                      have c45b1 : (t292.toList != ([120, 111, 114] : List UInt8)) = false := bne_eq_false_iff_eq.mpr c45
                                      clear c45
                                      by_cases c46 : x13_3.length < 140737488355328
                                      · rw [if_pos c46] at H
                                        have LMc46 := Aside0.mk c46
                                        clear c46
                                        obtain ⟨y319, hy319⟩ : ∃ y_ : List Bool, y_ = (x13_3 ++ [(false != false)]) := ⟨_, rfl⟩
                                        replace H : (mandrelref02_Two.l0 k3 t295 t296 t292 t293 y319 (wrap64 (x14_3 + 1))) = some (r1, r2, r3) := by first | (rw [hy319]; with_reducible exact H) | (have H2_ := (Option.bind_some _ _).symm.trans H; rw [hy319]; with_reducible exact H2_) | (have H2_ := (Option.bind_some _ _).symm.trans H; with_reducible exact H2_) | with_reducible exact H | (rw [hy319]; exact H) | exact H
                                        have Ny319 := Aside0.mk hy319
                                        clear hy319
                                        have H' := Aside0.mk H
                                        clear H
                                        go_wp2_with (first | ((with_reducible refine gate_callee (f := 27) rfl ?_); refine goesL_ (some 79) rfl rfl Tryd.func27 (by kernel_rfl) rfl #[.int .u64 t295, .int .i64 x14_3] rfl (by (try simp only [List.map_toArray, List.map_cons, List.map_nil]); first | done | rfl | (simp only [List.length_drop, List.length_take]; rfl)) ?_; (with_reducible refine (mandrelref02_bit.calls t295 x14_3 false _ A26.out).mono ?_); rintro e w' ⟨rfl, ⟨nd, rfl⟩⟩; refine ⟨_, rfl, ?_⟩) | ((with_reducible refine gate_callee (f := 27) rfl ?_); refine goesL_ (some 82) rfl rfl Tryd.func27 (by kernel_rfl) rfl #[.int .u64 t296, .int .i64 x14_3] rfl (by (try simp only [List.map_toArray, List.map_cons, List.map_nil]); first | done | rfl | (simp only [List.length_drop, List.length_take]; rfl)) ?_; (with_reducible refine (mandrelref02_bit.calls t296 x14_3 false _ A27.out).mono ?_); rintro e w' ⟨rfl, ⟨nd, rfl⟩⟩; refine ⟨_, rfl, ?_⟩) | ((with_reducible refine gate_builtin (b := .append) (xs := #[.tmp 83, .tmp 111]) rfl ?_); at_builtin; refine Kd.R_append Kd.bool (w0 := w) w.heap.size rfl (.tmp 83) (.tmp 111) 63 4 (.bool false) 1 rfl Tryd.underlying63 info4 rfl (by decide) (by omega) u13 x13_3 (false != false) [.bool (false != false)] (fun _ => True) (fun _ => False) rfl rfl ?aP (fun _ hk => hk.elim) ?aF ?aO ?aB ?aS ?aL ?_; (case aP => exact rfl); (case aB => exact (by repeat (first | (with_reducible first | exact HB.out | apply below_alloc | apply pw_below_drewN | apply below_drew1) | exact HB.out))); (case aF => exact (fun _ _ => trivial)); (case aO => exact (by (with_reducible repeat (first | apply Kd.R_alloc | apply Kd.R_drewN | apply Kd.R_drew)); exact HO_13.out)); (case aS => exact (below_size (by repeat (first | (with_reducible first | exact HB.out | apply below_alloc | apply pw_below_drewN | apply below_drew1) | exact HB.out)))); (case aL => have := LMc46.out; omega); intro v320 w47 ho hb hg hat; rw [← Ny319.out] at ho; have n0_ := Aside0.mk (hb); have n1_ := Aside0.mk (ho); clear HB; clear HO_13; have HB := n0_; have HO321 := n1_; clear n0_ n1_; clear ho hb hg hat))
                                        go_roundg k3
                                        case measure => have := HJ4.out; have := HJ20.out; have := HK3.out; omega
                                        case rel => exact ⟨(y319), (wrap64 (x14_3 + 1)), (by first | rfl | (simp; done) | (simp [*]; done)), H', ⟨by have := HJ4.out; have := HJ20.out; have := HK3.out; omega⟩, ⟨by (with_reducible repeat (first | apply Kd.R_alloc | apply Kd.R_drewN | apply Kd.R_drew)); exact HO321.out⟩, ⟨by repeat (first | (with_reducible first | exact HB.out | apply below_alloc | apply pw_below_drewN | apply below_drew1) | exact HB.out)⟩⟩
                                      · rw [if_neg c46] at H
                                        exact absurd H (by simp)
                                    · rw [if_neg c45] at H
                                      have c45b0 : (t292.toList == ([120, 111, 114] : List UInt8)) = false := beq_eq_false_iff_ne.mpr c45
                                      have c45b1 : (t292.toList != ([120, 111, 114] : List UInt8)) = true := bne_iff_ne.mpr c45
                                      by_cases c48 : x13_3.length < 140737488355328
                                      · rw [if_pos c48] at H
                                        have LMc48 := Aside0.mk c48
                                        clear c48
                                        obtain ⟨y322, hy322⟩ : ∃ y_ : List Bool, y_ = (x13_3 ++ [false]) := ⟨_, rfl⟩
                                        replace H : (mandrelref02_Two.l0 k3 t295 t296 t292 t293 y322 (wrap64 (x14_3 + 1))) = some (r1, r2, r3) := by first | (rw [hy322]; with_reducible exact H) | (have H2_ := (Option.bind_some _ _).symm.trans H; rw [hy322]; with_reducible exact H2_) | (have H2_ := (Option.bind_some _ _).symm.trans H; with_reducible exact H2_) | with_reducible exact H | (rw [hy322]; exact H) | exact H
                                        have Ny322 := Aside0.mk hy322
                                        clear hy322
                                        have H' := Aside0.mk H
                                        clear H
                                        go_wp2_with (first | ((with_reducible refine gate_callee (f := 27) rfl ?_); refine goesL_ (some 79) rfl rfl Tryd.func27 (by kernel_rfl) rfl #[.int .u64 t295, .int .i64 x14_3] rfl (by (try simp only [List.map_toArray, List.map_cons, List.map_nil]); first | done | rfl | (simp only [List.length_drop, List.length_take]; rfl)) ?_; (with_reducible refine (mandrelref02_bit.calls t295 x14_3 false _ A26.out).mono ?_); rintro e w' ⟨rfl, ⟨nd, rfl⟩⟩; refine ⟨_, rfl, ?_⟩) | ((with_reducible refine gate_callee (f := 27) rfl ?_); refine goesL_ (some 82) rfl rfl Tryd.func27 (by kernel_rfl) rfl #[.int .u64 t296, .int .i64 x14_3] rfl (by (try simp only [List.map_toArray, List.map_cons, List.map_nil]); first | done | rfl | (simp only [List.length_drop, List.length_take]; rfl)) ?_; (with_reducible refine (mandrelref02_bit.calls t296 x14_3 false _ A27.out).mono ?_); rintro e w' ⟨rfl, ⟨nd, rfl⟩⟩; refine ⟨_, rfl, ?_⟩) | ((with_reducible refine gate_builtin (b := .append) (xs := #[.tmp 83, .tmp 111]) rfl ?_); at_builtin; refine Kd.R_append Kd.bool (w0 := w) w.heap.size rfl (.tmp 83) (.tmp 111) 63 4 (.bool false) 1 rfl Tryd.underlying63 info4 rfl (by decide) (by omega) u13 x13_3 false [.bool false] (fun _ => True) (fun _ => False) rfl rfl ?aP (fun _ hk => hk.elim) ?aF ?aO ?aB ?aS ?aL ?_; (case aP => exact rfl); (case aB => exact (by repeat (first | (with_reducible first | exact HB.out | apply below_alloc | apply pw_below_drewN | apply below_drew1) | exact HB.out))); (case aF => exact (fun _ _ => trivial)); (case aO => exact (by (with_reducible repeat (first | apply Kd.R_alloc | apply Kd.R_drewN | apply Kd.R_drew)); exact HO_13.out)); (case aS => exact (below_size (by repeat (first | (with_reducible first | exact HB.out | apply below_alloc | apply pw_below_drewN | apply below_drew1) | exact HB.out)))); (case aL => have := LMc48.out; omega); intro v323 w49 ho hb hg hat; rw [← Ny322.out] at ho; have n0_ := Aside0.mk (hb); have n1_ := Aside0.mk (ho); clear HB; clear HO_13; have HB := n0_; have HO324 := n1_; clear n0_ n1_; clear ho hb hg hat))
                                        go_roundg k3
                                        case measure => have := HJ4.out; have := HJ20.out; have := HK3.out; omega
                                        case rel => exact ⟨(y322), (wrap64 (x14_3 + 1)), (by first | rfl | (simp; done) | (simp [*]; done)), H', ⟨by have := HJ4.out; have := HJ20.out; have := HK3.out; omega⟩, ⟨by (with_reducible repeat (first | apply Kd.R_alloc | apply Kd.R_drewN | apply Kd.R_drew)); exact HO324.out⟩, ⟨by repeat (first | (with_reducible first | exact HB.out | apply below_alloc | apply pw_below_drewN | apply below_drew1) | exact HB.out)⟩⟩
                                      · rw [if_neg c48] at H
                                        exact absurd H (by simp)
                                · rw [if_neg c41] at H
                                  have c41b0 : (t292.toList == ([111, 114] : List UInt8)) = false := beq_eq_false_iff_ne.mpr c41
                                  have c41b1 : (t292.toList != ([111, 114] : List UInt8)) = true := bne_iff_ne.mpr c41
                                  by_cases c50 : t292.toList = ([120, 111, 114] : List UInt8)
                                  · rw [if_pos c50] at H
                                    have c50b0 : (t292.toList == ([120, 111, 114] : List UInt8)) = true := beq_iff_eq.mpr c50
                                    have c50b1 : (t292.toList != ([120, 111, 114] : List UInt8)) = false := bne_eq_false_iff_eq.mpr c50
                                    clear c50
                                    by_cases c51 : x13_3.length < 140737488355328
                                    · rw [if_pos c51] at H
                                      have LMc51 := Aside0.mk c51
                                      clear c51
                                      have hbn_ : (false != t303) = t303 := by cases t303 <;> rfl
                                      (try rw [hbn_] at H)
                                      clear hbn_
                                      obtain ⟨y325, hy325⟩ : ∃ y_ : List Bool, y_ = (x13_3 ++ [t303]) := ⟨_, rfl⟩
                                      replace H : (mandrelref02_Two.l0 k3 t295 t296 t292 t293 y325 (wrap64 (x14_3 + 1))) = some (r1, r2, r3) := by first | (rw [hy325]; with_reducible exact H) | (have H2_ := (Option.bind_some _ _).symm.trans H; rw [hy325]; with_reducible exact H2_) | (have H2_ := (Option.bind_some _ _).symm.trans H; with_reducible exact H2_) | with_reducible exact H | (rw [hy325]; exact H) | exact H
                                      have Ny325 := Aside0.mk hy325
                                      clear hy325
                                      have H' := Aside0.mk H
                                      clear H
                                      go_wp2_with (first | ((with_reducible refine gate_callee (f := 27) rfl ?_); refine goesL_ (some 79) rfl rfl Tryd.func27 (by kernel_rfl) rfl #[.int .u64 t295, .int .i64 x14_3] rfl (by (try simp only [List.map_toArray, List.map_cons, List.map_nil]); first | done | rfl | (simp only [List.length_drop, List.length_take]; rfl)) ?_; (with_reducible refine (mandrelref02_bit.calls t295 x14_3 false _ A26.out).mono ?_); rintro e w' ⟨rfl, ⟨nd, rfl⟩⟩; refine ⟨_, rfl, ?_⟩) | ((with_reducible refine gate_callee (f := 27) rfl ?_); refine goesL_ (some 82) rfl rfl Tryd.func27 (by kernel_rfl) rfl #[.int .u64 t296, .int .i64 x14_3] rfl (by (try simp only [List.map_toArray, List.map_cons, List.map_nil]); first | done | rfl | (simp only [List.length_drop, List.length_take]; rfl)) ?_; (with_reducible refine (mandrelref02_bit.calls t296 x14_3 t303 _ A27.out).mono ?_); rintro e w' ⟨rfl, ⟨nd, rfl⟩⟩; refine ⟨_, rfl, ?_⟩) | ((with_reducible refine gate_builtin (b := .append) (xs := #[.tmp 83, .tmp 111]) rfl ?_); at_builtin; refine Kd.R_append Kd.bool (w0 := w) w.heap.size rfl (.tmp 83) (.tmp 111) 63 4 (.bool false) 1 rfl Tryd.underlying63 info4 rfl (by decide) (by omega) u13 x13_3 t303 [.bool t303] (fun _ => True) (fun _ => False) rfl rfl ?aP (fun _ hk => hk.elim) ?aF ?aO ?aB ?aS ?aL ?_; (case aP => exact rfl); (case aB => exact (by repeat (first | (with_reducible first | exact HB.out | apply below_alloc | apply pw_below_drewN | apply below_drew1) | exact HB.out))); (case aF => exact (fun _ _ => trivial)); (case aO => exact (by (with_reducible repeat (first | apply Kd.R_alloc | apply Kd.R_drewN | apply Kd.R_drew)); exact HO_13.out)); (case aS => exact (below_size (by repeat (first | (with_reducible first | exact HB.out | apply below_alloc | apply pw_below_drewN | apply below_drew1) | exact HB.out)))); (case aL => have := LMc51.out; omega); intro v326 w52 ho hb hg hat; rw [← Ny325.out] at ho; have n0_ := Aside0.mk (hb); have n1_ := Aside0.mk (ho); clear HB; clear HO_13; have HB := n0_; have HO327 := n1_; clear n0_ n1_; clear ho hb hg hat))
                                      go_roundg k3
                                      case measure => have := HJ4.out; have := HJ20.out; have := HK3.out; omega
                                      case rel => exact ⟨(y325), (wrap64 (x14_3 + 1)), (by first | rfl | (simp; done) | (simp [*]; done)), H', ⟨by have := HJ4.out; have := HJ20.out; have := HK3.out; omega⟩, ⟨by (with_reducible repeat (first | apply Kd.R_alloc | apply Kd.R_drewN | apply Kd.R_drew)); exact HO327.out⟩, ⟨by repeat (first | (with_reducible first | exact HB.out | apply below_alloc | apply pw_below_drewN | apply below_drew1) | exact HB.out)⟩⟩
                                    · rw [if_neg c51] at H
                                      exact absurd H (by simp)
                                  · rw [if_neg c50] at H
                                    have c50b0 : (t292.toList == ([120, 111, 114] : List UInt8)) = false := beq_eq_false_iff_ne.mpr c50
                                    have c50b1 : (t292.toList != ([120, 111, 114] : List UInt8)) = true := bne_iff_ne.mpr c50
                                    by_cases c53 : x13_3.length < 140737488355328
                                    · rw [if_pos c53] at H
                                      have LMc53 := Aside0.mk c53
                                      clear c53
                                      obtain ⟨y328, hy328⟩ : ∃ y_ : List Bool, y_ = (x13_3 ++ [false]) := ⟨_, rfl⟩
                                      replace H : (mandrelref02_Two.l0 k3 t295 t296 t292 t293 y328 (wrap64 (x14_3 + 1))) = some (r1, r2, r3) := by first | (rw [hy328]; with_reducible exact H) | (have H2_ := (Option.bind_some _ _).symm.trans H; rw [hy328]; with_reducible exact H2_) | (have H2_ := (Option.bind_some _ _).symm.trans H; with_reducible exact H2_) | with_reducible exact H | (rw [hy328]; exact H) | exact H
                                      have Ny328 := Aside0.mk hy328
                                      clear hy328
                                      have H' := Aside0.mk H
                                      clear H
                                      go_wp2_with (first | ((with_reducible refine gate_callee (f := 27) rfl ?_); refine goesL_ (some 79) rfl rfl Tryd.func27 (by kernel_rfl) rfl #[.int .u64 t295, .int .i64 x14_3] rfl (by (try simp only [List.map_toArray, List.map_cons, List.map_nil]); first | done | rfl | (simp only [List.length_drop, List.length_take]; rfl)) ?_; (with_reducible refine (mandrelref02_bit.calls t295 x14_3 false _ A26.out).mono ?_); rintro e w' ⟨rfl, ⟨nd, rfl⟩⟩; refine ⟨_, rfl, ?_⟩) | ((with_reducible refine gate_callee (f := 27) rfl ?_); refine goesL_ (some 82) rfl rfl Tryd.func27 (by kernel_rfl) rfl #[.int .u64 t296, .int .i64 x14_3] rfl (by (try simp only [List.map_toArray, List.map_cons, List.map_nil]); first | done | rfl | (simp only [List.length_drop, List.length_take]; rfl)) ?_; (with_reducible refine (mandrelref02_bit.calls t296 x14_3 t303 _ A27.out).mono ?_); rintro e w' ⟨rfl, ⟨nd, rfl⟩⟩; refine ⟨_, rfl, ?_⟩) | ((with_reducible refine gate_builtin (b := .append) (xs := #[.tmp 83, .tmp 111]) rfl ?_); at_builtin; refine Kd.R_append Kd.bool (w0 := w) w.heap.size rfl (.tmp 83) (.tmp 111) 63 4 (.bool false) 1 rfl Tryd.underlying63 info4 rfl (by decide) (by omega) u13 x13_3 false [.bool false] (fun _ => True) (fun _ => False) rfl rfl ?aP (fun _ hk => hk.elim) ?aF ?aO ?aB ?aS ?aL ?_; (case aP => exact rfl); (case aB => exact (by repeat (first | (with_reducible first | exact HB.out | apply below_alloc | apply pw_below_drewN | apply below_drew1) | exact HB.out))); (case aF => exact (fun _ _ => trivial)); (case aO => exact (by (with_reducible repeat (first | apply Kd.R_alloc | apply Kd.R_drewN | apply Kd.R_drew)); exact HO_13.out)); (case aS => exact (below_size (by repeat (first | (with_reducible first | exact HB.out | apply below_alloc | apply pw_below_drewN | apply below_drew1) | exact HB.out)))); (case aL => have := LMc53.out; omega); intro v329 w54 ho hb hg hat; rw [← Ny328.out] at ho; have n0_ := Aside0.mk (hb); have n1_ := Aside0.mk (ho); clear HB; clear HO_13; have HB := n0_; have HO330 := n1_; clear n0_ n1_; clear ho hb hg hat))
                                      go_roundg k3
                                      case measure => have := HJ4.out; have := HJ20.out; have := HK3.out; omega
                                      case rel => exact ⟨(y328), (wrap64 (x14_3 + 1)), (by first | rfl | (simp; done) | (simp [*]; done)), H', ⟨by have := HJ4.out; have := HJ20.out; have := HK3.out; omega⟩, ⟨by (with_reducible repeat (first | apply Kd.R_alloc | apply Kd.R_drewN | apply Kd.R_drew)); exact HO330.out⟩, ⟨by repeat (first | (with_reducible first | exact HB.out | apply below_alloc | apply pw_below_drewN | apply below_drew1) | exact HB.out)⟩⟩
                                    · rw [if_neg c53] at H
                                      exact absurd H (by simp)
                            · rw [if_neg c28] at H
                              have c28b0 : (t292.toList == ([97, 110, 100] : List UInt8)) = false := beq_eq_false_iff_ne.mpr c28
                              have c28b1 : (t292.toList != ([97, 110, 100] : List UInt8)) = true := bne_iff_ne.mpr c28
                              by_cases c55 : t292.toList = ([111, 114] : List UInt8)
                              · rw [if_pos c55] at H
                                have c55b0 : (t292.toList == ([111, 114] : List UInt8)) = true := beq_iff_eq.mpr c55
                                have c55b1 : (t292.toList != ([111, 114] : List UInt8)) = false := bne_eq_false_iff_eq.mpr c55
                                clear c55
                                by_cases c56 : t302 = true
                                · subst c56
                                  have H1 : (if x13_3.length < 140737488355328 then (mandrelref02_Two.l0 k3 t295 t296 t292 t293 (x13_3 ++ [true]) (wrap64 (x14_3 + 1))) else (none)) = some (r1, r2, r3) := by rw [if_pos rfl] at H; exact H
                                  clear H
                                  have H := H1
                                  clear H1
                                  by_cases c57 : x13_3.length < 140737488355328
                                  · rw [if_pos c57] at H
                                    have LMc57 := Aside0.mk c57
                                    clear c57
                                    obtain ⟨y331, hy331⟩ : ∃ y_ : List Bool, y_ = (x13_3 ++ [true]) := ⟨_, rfl⟩
                                    replace H : (mandrelref02_Two.l0 k3 t295 t296 t292 t293 y331 (wrap64 (x14_3 + 1))) = some (r1, r2, r3) := by first | (rw [hy331]; with_reducible exact H) | (have H2_ := (Option.bind_some _ _).symm.trans H; rw [hy331]; with_reducible exact H2_) | (have H2_ := (Option.bind_some _ _).symm.trans H; with_reducible exact H2_) | with_reducible exact H | (rw [hy331]; exact H) | exact H
                                    have Ny331 := Aside0.mk hy331
                                    clear hy331
                                    have H' := Aside0.mk H
                                    clear H
                                    go_wp2_with (first | ((with_reducible refine gate_callee (f := 27) rfl ?_); refine goesL_ (some 79) rfl rfl Tryd.func27 (by kernel_rfl) rfl #[.int .u64 t295, .int .i64 x14_3] rfl (by (try simp only [List.map_toArray, List.map_cons, List.map_nil]); first | done | rfl | (simp only [List.length_drop, List.length_take]; rfl)) ?_; (with_reducible refine (mandrelref02_bit.calls t295 x14_3 true _ A26.out).mono ?_); rintro e w' ⟨rfl, ⟨nd, rfl⟩⟩; refine ⟨_, rfl, ?_⟩) | ((with_reducible refine gate_callee (f := 27) rfl ?_); refine goesL_ (some 82) rfl rfl Tryd.func27 (by kernel_rfl) rfl #[.int .u64 t296, .int .i64 x14_3] rfl (by (try simp only [List.map_toArray, List.map_cons, List.map_nil]); first | done | rfl | (simp only [List.length_drop, List.length_take]; rfl)) ?_; (with_reducible refine (mandrelref02_bit.calls t296 x14_3 t303 _ A27.out).mono ?_); rintro e w' ⟨rfl, ⟨nd, rfl⟩⟩; refine ⟨_, rfl, ?_⟩) | ((with_reducible refine gate_builtin (b := .append) (xs := #[.tmp 83, .tmp 111]) rfl ?_); at_builtin; refine Kd.R_append Kd.bool (w0 := w) w.heap.size rfl (.tmp 83) (.tmp 111) 63 4 (.bool false) 1 rfl Tryd.underlying63 info4 rfl (by decide) (by omega) u13 x13_3 true [.bool true] (fun _ => True) (fun _ => False) rfl rfl ?aP (fun _ hk => hk.elim) ?aF ?aO ?aB ?aS ?aL ?_; (case aP => exact rfl); (case aB => exact (by repeat (first | (with_reducible first | exact HB.out | apply below_alloc | apply pw_below_drewN | apply below_drew1) | exact HB.out))); (case aF => exact (fun _ _ => trivial)); (case aO => exact (by (with_reducible repeat (first | apply Kd.R_alloc | apply Kd.R_drewN | apply Kd.R_drew)); exact HO_13.out)); (case aS => exact (below_size (by repeat (first | (with_reducible first | exact HB.out | apply below_alloc | apply pw_below_drewN | apply below_drew1) | exact HB.out)))); (case aL => have := LMc57.out; omega); intro v332 w58 ho hb hg hat; rw [← Ny331.out] at ho; have n0_ := Aside0.mk (hb); have n1_ := Aside0.mk (ho); clear HB; clear HO_13; have HB := n0_; have HO333 := n1_; clear n0_ n1_; clear ho hb hg hat))
                                    go_roundg k3
                                    case measure => have := HJ4.out; have := HJ20.out; have := HK3.out; omega
                                    case rel => exact ⟨(y331), (wrap64 (x14_3 + 1)), (by first | rfl | (simp; done) | (simp [*]; done)), H', ⟨by have := HJ4.out; have := HJ20.out; have := HK3.out; omega⟩, ⟨by (with_reducible repeat (first | apply Kd.R_alloc | apply Kd.R_drewN | apply Kd.R_drew)); exact HO333.out⟩, ⟨by repeat (first | (with_reducible first | exact HB.out | apply below_alloc | apply pw_below_drewN | apply below_drew1) | exact HB.out)⟩⟩
                                  · rw [if_neg c57] at H
                                    exact absurd H (by simp)
                                · replace c56 := Bool.eq_false_iff.mpr c56
                                  subst c56
                                  have H1 : (if t303 = true then (if x13_3.length < 140737488355328 then (mandrelref02_Two.l0 k3 t295 t296 t292 t293 (x13_3 ++ [true]) (wrap64 (x14_3 + 1))) else (none)) else (if t292.toList = ([120, 111, 114] : List UInt8) then (if x13_3.length < 140737488355328 then (mandrelref02_Two.l0 k3 t295 t296 t292 t293 (x13_3 ++ [(false != t303)]) (wrap64 (x14_3 + 1))) else (none)) else (if x13_3.length < 140737488355328 then (mandrelref02_Two.l0 k3 t295 t296 t292 t293 (x13_3 ++ [false]) (wrap64 (x14_3 + 1))) else (none)))) = some (r1, r2, r3) := by rw [if_neg (show ¬ (false = true) by decide)] at H; exact H
                                  clear H
                                  have H := H1
                                  clear H1
                                  by_cases c59 : t303 = true
                                  · subst c59
                                    have H1 : (if x13_3.length < 140737488355328 then (mandrelref02_Two.l0 k3 t295 t296 t292 t293 (x13_3 ++ [true]) (wrap64 (x14_3 + 1))) else (none)) = some (r1, r2, r3) := by rw [if_pos rfl] at H; exact H
                                    clear H
                                    have H := H1
                                    clear H1
                                    by_cases c60 : x13_3.length < 140737488355328
                                    · rw [if_pos c60] at H
                                      have LMc60 := Aside0.mk c60
                                      clear c60
                                      obtain ⟨y334, hy334⟩ : ∃ y_ : List Bool, y_ = (x13_3 ++ [true]) := ⟨_, rfl⟩
                                      replace H : (mandrelref02_Two.l0 k3 t295 t296 t292 t293 y334 (wrap64 (x14_3 + 1))) = some (r1, r2, r3) := by first | (rw [hy334]; with_reducible exact H) | (have H2_ := (Option.bind_some _ _).symm.trans H; rw [hy334]; with_reducible exact H2_) | (have H2_ := (Option.bind_some _ _).symm.trans H; with_reducible exact H2_) | with_reducible exact H | (rw [hy334]; exact H) | exact H
                                      have Ny334 := Aside0.mk hy334
                                      clear hy334
                                      have H' := Aside0.mk H
                                      clear H
                                      go_wp2_with (first | ((with_reducible refine gate_callee (f := 27) rfl ?_); refine goesL_ (some 79) rfl rfl Tryd.func27 (by kernel_rfl) rfl #[.int .u64 t295, .int .i64 x14_3] rfl (by (try simp only [List.map_toArray, List.map_cons, List.map_nil]); first | done | rfl | (simp only [List.length_drop, List.length_take]; rfl)) ?_; (with_reducible refine (mandrelref02_bit.calls t295 x14_3 false _ A26.out).mono ?_); rintro e w' ⟨rfl, ⟨nd, rfl⟩⟩; refine ⟨_, rfl, ?_⟩) | ((with_reducible refine gate_callee (f := 27) rfl ?_); refine goesL_ (some 82) rfl rfl Tryd.func27 (by kernel_rfl) rfl #[.int .u64 t296, .int .i64 x14_3] rfl (by (try simp only [List.map_toArray, List.map_cons, List.map_nil]); first | done | rfl | (simp only [List.length_drop, List.length_take]; rfl)) ?_; (with_reducible refine (mandrelref02_bit.calls t296 x14_3 true _ A27.out).mono ?_); rintro e w' ⟨rfl, ⟨nd, rfl⟩⟩; refine ⟨_, rfl, ?_⟩) | ((with_reducible refine gate_builtin (b := .append) (xs := #[.tmp 83, .tmp 111]) rfl ?_); at_builtin; refine Kd.R_append Kd.bool (w0 := w) w.heap.size rfl (.tmp 83) (.tmp 111) 63 4 (.bool false) 1 rfl Tryd.underlying63 info4 rfl (by decide) (by omega) u13 x13_3 true [.bool true] (fun _ => True) (fun _ => False) rfl rfl ?aP (fun _ hk => hk.elim) ?aF ?aO ?aB ?aS ?aL ?_; (case aP => exact rfl); (case aB => exact (by repeat (first | (with_reducible first | exact HB.out | apply below_alloc | apply pw_below_drewN | apply below_drew1) | exact HB.out))); (case aF => exact (fun _ _ => trivial)); (case aO => exact (by (with_reducible repeat (first | apply Kd.R_alloc | apply Kd.R_drewN | apply Kd.R_drew)); exact HO_13.out)); (case aS => exact (below_size (by repeat (first | (with_reducible first | exact HB.out | apply below_alloc | apply pw_below_drewN | apply below_drew1) | exact HB.out)))); (case aL => have := LMc60.out; omega); intro v335 w61 ho hb hg hat; rw [← Ny334.out] at ho; have n0_ := Aside0.mk (hb); have n1_ := Aside0.mk (ho); clear HB; clear HO_13; have HB := n0_; have HO336 := n1_; clear n0_ n1_; clear ho hb hg hat))
                                      go_roundg k3
                                      case measure => have := HJ4.out; have := HJ20.out; have := HK3.out; omega
                                      case rel => exact ⟨(y334), (wrap64 (x14_3 + 1)), (by first | rfl | (simp; done) | (simp [*]; done)), H', ⟨by have := HJ4.out; have := HJ20.out; have := HK3.out; omega⟩, ⟨by (with_reducible repeat (first | apply Kd.R_alloc | apply Kd.R_drewN | apply Kd.R_drew)); exact HO336.out⟩, ⟨by repeat (first | (with_reducible first | exact HB.out | apply below_alloc | apply pw_below_drewN | apply below_drew1) | exact HB.out)⟩⟩
                                    · rw [if_neg c60] at H
                                      exact absurd H (by simp)
                                  · replace c59 := Bool.eq_false_iff.mpr c59
                                    subst c59
                                    have H1 : (if t292.toList = ([120, 111, 114] : List UInt8) then (if x13_3.length < 140737488355328 then (mandrelref02_Two.l0 k3 t295 t296 t292 t293 (x13_3 ++ [(false != false)]) (wrap64 (x14_3 + 1))) else (none)) else (if x13_3.length < 140737488355328 then (mandrelref02_Two.l0 k3 t295 t296 t292 t293 (x13_3 ++ [false]) (wrap64 (x14_3 + 1))) else (none))) = some (r1, r2, r3) := by rw [if_neg (show ¬ (false = true) by decide)] at H; exact H
                                    clear H
                                    have H := H1
                                    clear H1
                                    by_cases c62 : t292.toList = ([120, 111, 114] : List UInt8)
                                    · rw [if_pos c62] at H
                                      have c62b0 : (t292.toList == ([120, 111, 114] : List UInt8)) = true := beq_iff_eq.mpr c62
                                      have c62b1 : (t292.toList != ([120, 111, 114] : List UInt8)) = false := bne_eq_false_iff_eq.mpr c62
                                      clear c62
                                      by_cases c63 : x13_3.length < 140737488355328
                                      · rw [if_pos c63] at H
                                        have LMc63 := Aside0.mk c63
                                        clear c63
                                        obtain ⟨y337, hy337⟩ : ∃ y_ : List Bool, y_ = (x13_3 ++ [(false != false)]) := ⟨_, rfl⟩
                                        replace H : (mandrelref02_Two.l0 k3 t295 t296 t292 t293 y337 (wrap64 (x14_3 + 1))) = some (r1, r2, r3) := by first | (rw [hy337]; with_reducible exact H) | (have H2_ := (Option.bind_some _ _).symm.trans H; rw [hy337]; with_reducible exact H2_) | (have H2_ := (Option.bind_some _ _).symm.trans H; with_reducible exact H2_) | with_reducible exact H | (rw [hy337]; exact H) | exact H
                                        have Ny337 := Aside0.mk hy337
                                        clear hy337
                                        have H' := Aside0.mk H
                                        clear H
                                        go_wp2_with (first | ((with_reducible refine gate_callee (f := 27) rfl ?_); refine goesL_ (some 79) rfl rfl Tryd.func27 (by kernel_rfl) rfl #[.int .u64 t295, .int .i64 x14_3] rfl (by (try simp only [List.map_toArray, List.map_cons, List.map_nil]); first | done | rfl | (simp only [List.length_drop, List.length_take]; rfl)) ?_; (with_reducible refine (mandrelref02_bit.calls t295 x14_3 false _ A26.out).mono ?_); rintro e w' ⟨rfl, ⟨nd, rfl⟩⟩; refine ⟨_, rfl, ?_⟩) | ((with_reducible refine gate_callee (f := 27) rfl ?_); refine goesL_ (some 82) rfl rfl Tryd.func27 (by kernel_rfl) rfl #[.int .u64 t296, .int .i64 x14_3] rfl (by (try simp only [List.map_toArray, List.map_cons, List.map_nil]); first | done | rfl | (simp only [List.length_drop, List.length_take]; rfl)) ?_; (with_reducible refine (mandrelref02_bit.calls t296 x14_3 false _ A27.out).mono ?_); rintro e w' ⟨rfl, ⟨nd, rfl⟩⟩; refine ⟨_, rfl, ?_⟩) | ((with_reducible refine gate_builtin (b := .append) (xs := #[.tmp 83, .tmp 111]) rfl ?_); at_builtin; refine Kd.R_append Kd.bool (w0 := w) w.heap.size rfl (.tmp 83) (.tmp 111) 63 4 (.bool false) 1 rfl Tryd.underlying63 info4 rfl (by decide) (by omega) u13 x13_3 (false != false) [.bool (false != false)] (fun _ => True) (fun _ => False) rfl rfl ?aP (fun _ hk => hk.elim) ?aF ?aO ?aB ?aS ?aL ?_; (case aP => exact rfl); (case aB => exact (by repeat (first | (with_reducible first | exact HB.out | apply below_alloc | apply pw_below_drewN | apply below_drew1) | exact HB.out))); (case aF => exact (fun _ _ => trivial)); (case aO => exact (by (with_reducible repeat (first | apply Kd.R_alloc | apply Kd.R_drewN | apply Kd.R_drew)); exact HO_13.out)); (case aS => exact (below_size (by repeat (first | (with_reducible first | exact HB.out | apply below_alloc | apply pw_below_drewN | apply below_drew1) | exact HB.out)))); (case aL => have := LMc63.out; omega); intro v338 w64 ho hb hg hat; rw [← Ny337.out] at ho; have n0_ := Aside0.mk (hb); have n1_ := Aside0.mk (ho); clear HB; clear HO_13; have HB := n0_; have HO339 := n1_; clear n0_ n1_; clear ho hb hg hat))
                                        go_roundg k3
                                        case measure => have := HJ4.out; have := HJ20.out; have := HK3.out; omega
                                        case rel => exact ⟨(y337), (wrap64 (x14_3 + 1)), (by first | rfl | (simp; done) | (simp [*]; done)), H', ⟨by have := HJ4.out; have := HJ20.out; have := HK3.out; omega⟩, ⟨by (with_reducible repeat (first | apply Kd.R_alloc | apply Kd.R_drewN | apply Kd.R_drew)); exact HO339.out⟩, ⟨by repeat (first | (with_reducible first | exact HB.out | apply below_alloc | apply pw_below_drewN | apply below_drew1) | exact HB.out)⟩⟩
                                      · rw [if_neg c63] at H
                                        exact absurd H (by simp)
                                    · rw [if_neg c62] at H
                                      have c62b0 : (t292.toList == ([120, 111, 114] : List UInt8)) = false := beq_eq_false_iff_ne.mpr c62
                                      have c62b1 : (t292.toList != ([120, 111, 114] : List UInt8)) = true := bne_iff_ne.mpr c62
                                      by_cases c65 : x13_3.length < 140737488355328
                                      · rw [if_pos c65] at H
                                        have LMc65 := Aside0.mk c65
                                        clear c65
                                        obtain ⟨y340, hy340⟩ : ∃ y_ : List Bool, y_ = (x13_3 ++ [false]) := ⟨_, rfl⟩
                                        replace H : (mandrelref02_Two.l0 k3 t295 t296 t292 t293 y340 (wrap64 (x14_3 + 1))) = some (r1, r2, r3) := by first | (rw [hy340]; with_reducible exact H) | (have H2_ := (Option.bind_some _ _).symm.trans H; rw [hy340]; with_reducible exact H2_) | (have H2_ := (Option.bind_some _ _).symm.trans H; with_reducible exact H2_) | with_reducible exact H | (rw [hy340]; exact H) | exact H
                                        have Ny340 := Aside0.mk hy340
                                        clear hy340
                                        have H' := Aside0.mk H
                                        clear H
                                        go_wp2_with (first | ((with_reducible refine gate_callee (f := 27) rfl ?_); refine goesL_ (some 79) rfl rfl Tryd.func27 (by kernel_rfl) rfl #[.int .u64 t295, .int .i64 x14_3] rfl (by (try simp only [List.map_toArray, List.map_cons, List.map_nil]); first | done | rfl | (simp only [List.length_drop, List.length_take]; rfl)) ?_; (with_reducible refine (mandrelref02_bit.calls t295 x14_3 false _ A26.out).mono ?_); rintro e w' ⟨rfl, ⟨nd, rfl⟩⟩; refine ⟨_, rfl, ?_⟩) | ((with_reducible refine gate_callee (f := 27) rfl ?_); refine goesL_ (some 82) rfl rfl Tryd.func27 (by kernel_rfl) rfl #[.int .u64 t296, .int .i64 x14_3] rfl (by (try simp only [List.map_toArray, List.map_cons, List.map_nil]); first | done | rfl | (simp only [List.length_drop, List.length_take]; rfl)) ?_; (with_reducible refine (mandrelref02_bit.calls t296 x14_3 false _ A27.out).mono ?_); rintro e w' ⟨rfl, ⟨nd, rfl⟩⟩; refine ⟨_, rfl, ?_⟩) | ((with_reducible refine gate_builtin (b := .append) (xs := #[.tmp 83, .tmp 111]) rfl ?_); at_builtin; refine Kd.R_append Kd.bool (w0 := w) w.heap.size rfl (.tmp 83) (.tmp 111) 63 4 (.bool false) 1 rfl Tryd.underlying63 info4 rfl (by decide) (by omega) u13 x13_3 false [.bool false] (fun _ => True) (fun _ => False) rfl rfl ?aP (fun _ hk => hk.elim) ?aF ?aO ?aB ?aS ?aL ?_; (case aP => exact rfl); (case aB => exact (by repeat (first | (with_reducible first | exact HB.out | apply below_alloc | apply pw_below_drewN | apply below_drew1) | exact HB.out))); (case aF => exact (fun _ _ => trivial)); (case aO => exact (by (with_reducible repeat (first | apply Kd.R_alloc | apply Kd.R_drewN | apply Kd.R_drew)); exact HO_13.out)); (case aS => exact (below_size (by repeat (first | (with_reducible first | exact HB.out | apply below_alloc | apply pw_below_drewN | apply below_drew1) | exact HB.out)))); (case aL => have := LMc65.out; omega); intro v341 w66 ho hb hg hat; rw [← Ny340.out] at ho; have n0_ := Aside0.mk (hb); have n1_ := Aside0.mk (ho); clear HB; clear HO_13; have HB := n0_; have HO342 := n1_; clear n0_ n1_; clear ho hb hg hat))
                                        go_roundg k3
                                        case measure => have := HJ4.out; have := HJ20.out; have := HK3.out; omega
                                        case rel => exact ⟨(y340), (wrap64 (x14_3 + 1)), (by first | rfl | (simp; done) | (simp [*]; done)), H', ⟨by have := HJ4.out; have := HJ20.out; have := HK3.out; omega⟩, ⟨by (with_reducible repeat (first | apply Kd.R_alloc | apply Kd.R_drewN | apply Kd.R_drew)); exact HO342.out⟩, ⟨by repeat (first | (with_reducible first | exact HB.out | apply below_alloc | apply pw_below_drewN | apply below_drew1) | exact HB.out)⟩⟩
                                      · rw [if_neg c65] at H
                                        exact absurd H (by simp)
                              · rw [if_neg c55] at H
                                have c55b0 : (t292.toList == ([111, 114] : List UInt8)) = false := beq_eq_false_iff_ne.mpr c55
                                have c55b1 : (t292.toList != ([111, 114] : List UInt8)) = true := bne_iff_ne.mpr c55
                                by_cases c67 : t292.toList = ([120, 111, 114] : List UInt8)
                                · rw [if_pos c67] at H
                                  have c67b0 : (t292.toList == ([120, 111, 114] : List UInt8)) = true := beq_iff_eq.mpr c67
                                  have c67b1 : (t292.toList != ([120, 111, 114] : List UInt8)) = false := bne_eq_false_iff_eq.mpr c67
                                  clear c67
                                  by_cases c68 : x13_3.length < 140737488355328
                                  · rw [if_pos c68] at H
                                    have LMc68 := Aside0.mk c68
                                    clear c68
                                    obtain ⟨y343, hy343⟩ : ∃ y_ : List Bool, y_ = (x13_3 ++ [(t302 != t303)]) := ⟨_, rfl⟩
                                    replace H : (mandrelref02_Two.l0 k3 t295 t296 t292 t293 y343 (wrap64 (x14_3 + 1))) = some (r1, r2, r3) := by first | (rw [hy343]; with_reducible exact H) | (have H2_ := (Option.bind_some _ _).symm.trans H; rw [hy343]; with_reducible exact H2_) | (have H2_ := (Option.bind_some _ _).symm.trans H; with_reducible exact H2_) | with_reducible exact H | (rw [hy343]; exact H) | exact H
                                    have Ny343 := Aside0.mk hy343
                                    clear hy343
                                    have H' := Aside0.mk H
                                    clear H
                                    go_wp2_with (first | ((with_reducible refine gate_callee (f := 27) rfl ?_); refine goesL_ (some 79) rfl rfl Tryd.func27 (by kernel_rfl) rfl #[.int .u64 t295, .int .i64 x14_3] rfl (by (try simp only [List.map_toArray, List.map_cons, List.map_nil]); first | done | rfl | (simp only [List.length_drop, List.length_take]; rfl)) ?_; (with_reducible refine (mandrelref02_bit.calls t295 x14_3 t302 _ A26.out).mono ?_); rintro e w' ⟨rfl, ⟨nd, rfl⟩⟩; refine ⟨_, rfl, ?_⟩) | ((with_reducible refine gate_callee (f := 27) rfl ?_); refine goesL_ (some 82) rfl rfl Tryd.func27 (by kernel_rfl) rfl #[.int .u64 t296, .int .i64 x14_3] rfl (by (try simp only [List.map_toArray, List.map_cons, List.map_nil]); first | done | rfl | (simp only [List.length_drop, List.length_take]; rfl)) ?_; (with_reducible refine (mandrelref02_bit.calls t296 x14_3 t303 _ A27.out).mono ?_); rintro e w' ⟨rfl, ⟨nd, rfl⟩⟩; refine ⟨_, rfl, ?_⟩) | ((with_reducible refine gate_builtin (b := .append) (xs := #[.tmp 83, .tmp 111]) rfl ?_); at_builtin; refine Kd.R_append Kd.bool (w0 := w) w.heap.size rfl (.tmp 83) (.tmp 111) 63 4 (.bool false) 1 rfl Tryd.underlying63 info4 rfl (by decide) (by omega) u13 x13_3 (t302 != t303) [.bool (t302 != t303)] (fun _ => True) (fun _ => False) rfl rfl ?aP (fun _ hk => hk.elim) ?aF ?aO ?aB ?aS ?aL ?_; (case aP => exact rfl); (case aB => exact (by repeat (first | (with_reducible first | exact HB.out | apply below_alloc | apply pw_below_drewN | apply below_drew1) | exact HB.out))); (case aF => exact (fun _ _ => trivial)); (case aO => exact (by (with_reducible repeat (first | apply Kd.R_alloc | apply Kd.R_drewN | apply Kd.R_drew)); exact HO_13.out)); (case aS => exact (below_size (by repeat (first | (with_reducible first | exact HB.out | apply below_alloc | apply pw_below_drewN | apply below_drew1) | exact HB.out)))); (case aL => have := LMc68.out; omega); intro v344 w69 ho hb hg hat; rw [← Ny343.out] at ho; have n0_ := Aside0.mk (hb); have n1_ := Aside0.mk (ho); clear HB; clear HO_13; have HB := n0_; have HO345 := n1_; clear n0_ n1_; clear ho hb hg hat))
                                    go_roundg k3
                                    case measure => have := HJ4.out; have := HJ20.out; have := HK3.out; omega
                                    case rel => exact ⟨(y343), (wrap64 (x14_3 + 1)), (by first | rfl | (simp; done) | (simp [*]; done)), H', ⟨by have := HJ4.out; have := HJ20.out; have := HK3.out; omega⟩, ⟨by (with_reducible repeat (first | apply Kd.R_alloc | apply Kd.R_drewN | apply Kd.R_drew)); exact HO345.out⟩, ⟨by repeat (first | (with_reducible first | exact HB.out | apply below_alloc | apply pw_below_drewN | apply below_drew1) | exact HB.out)⟩⟩
                                  · rw [if_neg c68] at H
                                    exact absurd H (by simp)
                                · rw [if_neg c67] at H
                                  have c67b0 : (t292.toList == ([120, 111, 114] : List UInt8)) = false := beq_eq_false_iff_ne.mpr c67
                                  have c67b1 : (t292.toList != ([120, 111, 114] : List UInt8)) = true := bne_iff_ne.mpr c67
                                  by_cases c70 : x13_3.length < 140737488355328
                                  · rw [if_pos c70] at H
                                    have LMc70 := Aside0.mk c70
                                    clear c70
                                    obtain ⟨y346, hy346⟩ : ∃ y_ : List Bool, y_ = (x13_3 ++ [false]) := ⟨_, rfl⟩
                                    replace H : (mandrelref02_Two.l0 k3 t295 t296 t292 t293 y346 (wrap64 (x14_3 + 1))) = some (r1, r2, r3) := by first | (rw [hy346]; with_reducible exact H) | (have H2_ := (Option.bind_some _ _).symm.trans H; rw [hy346]; with_reducible exact H2_) | (have H2_ := (Option.bind_some _ _).symm.trans H; with_reducible exact H2_) | with_reducible exact H | (rw [hy346]; exact H) | exact H
                                    have Ny346 := Aside0.mk hy346
                                    clear hy346
                                    have H' := Aside0.mk H
                                    clear H
                                    go_wp2_with (first | ((with_reducible refine gate_callee (f := 27) rfl ?_); refine goesL_ (some 79) rfl rfl Tryd.func27 (by kernel_rfl) rfl #[.int .u64 t295, .int .i64 x14_3] rfl (by (try simp only [List.map_toArray, List.map_cons, List.map_nil]); first | done | rfl | (simp only [List.length_drop, List.length_take]; rfl)) ?_; (with_reducible refine (mandrelref02_bit.calls t295 x14_3 t302 _ A26.out).mono ?_); rintro e w' ⟨rfl, ⟨nd, rfl⟩⟩; refine ⟨_, rfl, ?_⟩) | ((with_reducible refine gate_callee (f := 27) rfl ?_); refine goesL_ (some 82) rfl rfl Tryd.func27 (by kernel_rfl) rfl #[.int .u64 t296, .int .i64 x14_3] rfl (by (try simp only [List.map_toArray, List.map_cons, List.map_nil]); first | done | rfl | (simp only [List.length_drop, List.length_take]; rfl)) ?_; (with_reducible refine (mandrelref02_bit.calls t296 x14_3 t303 _ A27.out).mono ?_); rintro e w' ⟨rfl, ⟨nd, rfl⟩⟩; refine ⟨_, rfl, ?_⟩) | ((with_reducible refine gate_builtin (b := .append) (xs := #[.tmp 83, .tmp 111]) rfl ?_); at_builtin; refine Kd.R_append Kd.bool (w0 := w) w.heap.size rfl (.tmp 83) (.tmp 111) 63 4 (.bool false) 1 rfl Tryd.underlying63 info4 rfl (by decide) (by omega) u13 x13_3 false [.bool false] (fun _ => True) (fun _ => False) rfl rfl ?aP (fun _ hk => hk.elim) ?aF ?aO ?aB ?aS ?aL ?_; (case aP => exact rfl); (case aB => exact (by repeat (first | (with_reducible first | exact HB.out | apply below_alloc | apply pw_below_drewN | apply below_drew1) | exact HB.out))); (case aF => exact (fun _ _ => trivial)); (case aO => exact (by (with_reducible repeat (first | apply Kd.R_alloc | apply Kd.R_drewN | apply Kd.R_drew)); exact HO_13.out)); (case aS => exact (below_size (by repeat (first | (with_reducible first | exact HB.out | apply below_alloc | apply pw_below_drewN | apply below_drew1) | exact HB.out)))); (case aL => have := LMc70.out; omega); intro v347 w71 ho hb hg hat; rw [← Ny346.out] at ho; have n0_ := Aside0.mk (hb); have n1_ := Aside0.mk (ho); clear HB; clear HO_13; have HB := n0_; have HO348 := n1_; clear n0_ n1_; clear ho hb hg hat))
                                    go_roundg k3
                                    case measure => have := HJ4.out; have := HJ20.out; have := HK3.out; omega
                                    case rel => exact ⟨(y346), (wrap64 (x14_3 + 1)), (by first | rfl | (simp; done) | (simp [*]; done)), H', ⟨by have := HJ4.out; have := HJ20.out; have := HK3.out; omega⟩, ⟨by (with_reducible repeat (first | apply Kd.R_alloc | apply Kd.R_drewN | apply Kd.R_drew)); exact HO348.out⟩, ⟨by repeat (first | (with_reducible first | exact HB.out | apply below_alloc | apply pw_below_drewN | apply below_drew1) | exact HB.out)⟩⟩
                                  · rw [if_neg c70] at H
                                    exact absurd H (by simp)
                          · rw [if_neg c25] at H
                            have c25b0 : decide (x14_3 < t293) = false := decide_eq_false c25
                            clear c25
                            replace H := Option.bind_eq_some_iff.mp H
                            obtain ⟨t349, A720, H⟩ := H
                            replace H : (some (t349, 0, true)) = some (r1, r2, r3) := H
                            have A72 := Aside0.mk A720
                            clear A720
                            simp only [Option.some.injEq, Prod.mk.injEq] at H
                            obtain ⟨rfl, rfl, rfl⟩ := H
                            obtain ⟨Ao73, co73, eo73⟩ := Kd.R_slice HO_13.out
                            subst eo73
                            go_wp2_with (first | ((with_reducible refine gate_callee (f := 30) rfl ?_); refine goesL_ (some 114) rfl rfl Tryd.func30 (by kernel_rfl) rfl #[.slice Ao73 x13_3.length co73] rfl (by (try simp only [List.map_toArray, List.map_cons, List.map_nil]); first | done | rfl | (simp only [List.length_drop, List.length_take]; rfl)) ?_; (with_reducible refine (mandrelref02_made.calls k3 _ _ x13_3 t349 _ ?side1 ?side2 A72.out).mono ?_); (case side1 => repeat (first | exact (Kd.R_reads' HO_13.out).2.2 | (with_reducible refine Kd.C_alloc ?_ _) | (with_reducible refine Kd.C_drewN ?_ _) | (with_reducible refine Kd.C_drew ?_))); (case side2 => exact (Kd.R_reads' HO_13.out).2.1); rintro e w' ⟨rfl, ⟨nd, rfl⟩⟩; refine ⟨_, rfl, ?_⟩))
                            go_ret3
                            exact ⟨by first | rfl | (simp [errW_none, errW_some] <;> rfl) | (simp [*, errW_none, errW_some] <;> rfl), by repeat (first | (with_reducible first | exact HB.out | apply below_alloc | apply pw_below_drewN | apply below_drew1) | exact HB.out)⟩
                    · replace c24 := Bool.eq_false_iff.mpr c24
                      subst c24
                      have H1 : (if t292.toList = ([100, 105, 118, 95, 115] : List UInt8) then (mandrelref02_Two.j3 kj20 t295 t296 t292 t293 (t292.toList == ([100, 105, 118, 95, 115] : List UInt8))) else (if t292.toList = ([100, 105, 118, 95, 117] : List UInt8) then (mandrelref02_Two.j3 kj20 t295 t296 t292 t293 (t292.toList == ([100, 105, 118, 95, 117] : List UInt8))) else (if t292.toList = ([114, 101, 109, 95, 115] : List UInt8) then (mandrelref02_Two.j3 kj20 t295 t296 t292 t293 (t292.toList == ([114, 101, 109, 95, 115] : List UInt8))) else (mandrelref02_Two.j3 kj20 t295 t296 t292 t293 (t292.toList == ([114, 101, 109, 95, 117] : List UInt8)))))) = some (r1, r2, r3) := by rw [if_neg (show ¬ (false = true) by decide)] at H; exact H
                      clear H
                      have H := H1
                      clear H1
                      have HC74 := Aside0.mk H
                      clear H
                      go_upto_if 115 with (fail)
                      go_cut [115] (fun v115 wc => ∃ (kq : Nat) (x115_73 : Bool), v115 = .bool x115_73 ∧ Aside0 (mandrelref02_Two.j3 kq t295 t296 t292 t293 x115_73 = some (r1, r2, r3)) ∧ Aside0 (kq ≤ kj20) ∧ Aside0 (Below w.heap.size w wc))
                      case first =>
                        have H := HC74.out
                        clear HC74
                        by_cases c75 : t292.toList = ([100, 105, 118, 95, 115] : List UInt8)
                        · rw [if_pos c75] at H
                          have c75b0 : (t292.toList == ([100, 105, 118, 95, 115] : List UInt8)) = true := beq_iff_eq.mpr c75
                          have c75b1 : (t292.toList != ([100, 105, 118, 95, 115] : List UInt8)) = false := bne_eq_false_iff_eq.mpr c75
                          clear c75
                          (first | rw [c75b0] | (simp only [i64_w, i32_w]; rw [c75b0]) | skip)
                          have H' := Aside0.mk H
                          clear H
                          go_wp2
                          go_meet
                          case rel => exact ⟨_, ((t292.toList == ([100, 105, 118, 95, 115] : List UInt8))), (by first | rfl | (simp; done) | (simp [*]; done)), H', ⟨by have := HJ4.out; have := HJ20.out; first | omega | exact Nat.le_refl _⟩, ⟨by repeat (first | (with_reducible first | exact HB.out | apply below_alloc | apply pw_below_drewN | apply below_drew1) | exact HB.out)⟩⟩
                        · rw [if_neg c75] at H
                          have c75b0 : (t292.toList == ([100, 105, 118, 95, 115] : List UInt8)) = false := beq_eq_false_iff_ne.mpr c75
                          have c75b1 : (t292.toList != ([100, 105, 118, 95, 115] : List UInt8)) = true := bne_iff_ne.mpr c75
                          (first | rw [c75b0] | (simp only [i64_w, i32_w]; rw [c75b0]) | skip)
                          by_cases c76 : t292.toList = ([100, 105, 118, 95, 117] : List UInt8)
                          · rw [if_pos c76] at H
                            have c76b0 : (t292.toList == ([100, 105, 118, 95, 117] : List UInt8)) = true := beq_iff_eq.mpr c76
                            have c76b1 : (t292.toList != ([100, 105, 118, 95, 117] : List UInt8)) = false := bne_eq_false_iff_eq.mpr c76
                            clear c76
                            have H' := Aside0.mk H
                            clear H
                            go_wp2
                            go_meet
                            case rel => exact ⟨_, ((t292.toList == ([100, 105, 118, 95, 117] : List UInt8))), (by first | rfl | (simp; done) | (simp [*]; done)), H', ⟨by have := HJ4.out; have := HJ20.out; first | omega | exact Nat.le_refl _⟩, ⟨by repeat (first | (with_reducible first | exact HB.out | apply below_alloc | apply pw_below_drewN | apply below_drew1) | exact HB.out)⟩⟩
                          · rw [if_neg c76] at H
                            have c76b0 : (t292.toList == ([100, 105, 118, 95, 117] : List UInt8)) = false := beq_eq_false_iff_ne.mpr c76
                            have c76b1 : (t292.toList != ([100, 105, 118, 95, 117] : List UInt8)) = true := bne_iff_ne.mpr c76
                            by_cases c77 : t292.toList = ([114, 101, 109, 95, 115] : List UInt8)
                            · rw [if_pos c77] at H
                              have c77b0 : (t292.toList == ([114, 101, 109, 95, 115] : List UInt8)) = true := beq_iff_eq.mpr c77
                              have c77b1 : (t292.toList != ([114, 101, 109, 95, 115] : List UInt8)) = false := bne_eq_false_iff_eq.mpr c77
                              clear c77
                              have H' := Aside0.mk H
                              clear H
                              go_wp2
                              go_meet
                              case rel => exact ⟨_, ((t292.toList == ([114, 101, 109, 95, 115] : List UInt8))), (by first | rfl | (simp; done) | (simp [*]; done)), H', ⟨by have := HJ4.out; have := HJ20.out; first | omega | exact Nat.le_refl _⟩, ⟨by repeat (first | (with_reducible first | exact HB.out | apply below_alloc | apply pw_below_drewN | apply below_drew1) | exact HB.out)⟩⟩
                            · rw [if_neg c77] at H
                              have c77b0 : (t292.toList == ([114, 101, 109, 95, 115] : List UInt8)) = false := beq_eq_false_iff_ne.mpr c77
                              have c77b1 : (t292.toList != ([114, 101, 109, 95, 115] : List UInt8)) = true := bne_iff_ne.mpr c77
                              have H' := Aside0.mk H
                              clear H
                              go_wp2
                              go_meet
                              case rel => exact ⟨_, ((t292.toList == ([114, 101, 109, 95, 117] : List UInt8))), (by first | rfl | (simp; done) | (simp [*]; done)), H', ⟨by have := HJ4.out; have := HJ20.out; first | omega | exact Nat.le_refl _⟩, ⟨by repeat (first | (with_reducible first | exact HB.out | apply below_alloc | apply pw_below_drewN | apply below_drew1) | exact HB.out)⟩⟩
                      case rest =>
                        clear HC74
                        try clear c1
                        try clear c2
                        try clear p2
                        try clear c3
                        try clear c4
                        try clear c5
                        try clear c6
                        try clear p6
                        try clear c7
                        try clear c7b0
                        try clear c7b1
                        try clear c9
                        try clear c13
                        try clear c14
                        try clear c15
                        try clear c15b0
                        try clear c15b1
                        try clear c17
                        try clear c17b0
                        try clear c17b1
                        try clear c19
                        try clear c19b0
                        try clear c19b1
                        try clear c22
                        try clear c22b0
                        try clear c22b1
                        try clear c23
                        try clear c23b0
                        try clear c23b1
                        try clear c24
                        try clear c25
                        try clear c25b0
                        try clear c26
                        try clear c27
                        try clear c28
                        try clear c28b0
                        try clear c28b1
                        try clear c29
                        try clear c30
                        try clear c31
                        try clear c33
                        try clear c33b0
                        try clear c33b1
                        try clear c34
                        try clear c36
                        try clear c36b0
                        try clear c36b1
                        try clear c37
                        try clear c39
                        try clear c41
                        try clear c41b0
                        try clear c41b1
                        try clear c42
                        try clear c43
                        try clear c45
                        try clear c45b0
                        try clear c45b1
                        try clear c46
                        try clear c48
                        try clear c50
                        try clear c50b0
                        try clear c50b1
                        try clear c51
                        try clear c53
                        try clear c55
                        try clear c55b0
                        try clear c55b1
                        try clear c56
                        try clear c57
                        try clear c59
                        try clear c60
                        try clear c62
                        try clear c62b0
                        try clear c62b1
                        try clear c63
                        try clear p64
                        try clear c65
                        try clear c67
                        try clear c67b0
                        try clear c67b1
                        try clear c68
                        try clear c70
                        try clear c75
                        try clear c75b0
                        try clear c75b1
                        try clear c76
                        try clear c76b0
                        try clear c76b1
                        try clear c77
                        try clear c77b0
                        try clear c77b1
                        try clear p2
                        obtain ⟨kq, x115_73, rfl, HA, HJ73, HB⟩ := hcut
                        cases kq with
                        | zero => exact absurd HA.out (by simp [mandrelref02_Two.j3])
                        | succ kj73 =>
                          have H := HA.out
                          clear HA
                          simp only [mandrelref02_Two.j3] at H
                          by_cases c78 : x115_73 = true
                          · subst c78
                            have H1 : ((mandrelref02_divided.f t292 t295 t296 t293).bind fun bt350 => (some (bt350.1, bt350.2, true))) = some (r1, r2, r3) := by rw [if_pos rfl] at H; exact H
                            clear H
                            have H := H1
                            clear H1
                            replace H := Option.bind_eq_some_iff.mp H
                            obtain ⟨⟨t350, t351⟩, A790, H⟩ := H
                            replace H : (some (t350, t351, true)) = some (r1, r2, r3) := H
                            have A79 := Aside0.mk A790
                            clear A790
                            simp only [Option.some.injEq, Prod.mk.injEq] at H
                            obtain ⟨rfl, rfl, rfl⟩ := H
                            go_wp2_with (first | ((with_reducible refine gate_callee (f := 31) rfl ?_); refine goesL_ (some 125) rfl rfl Tryd.func31 (by kernel_rfl) rfl #[.string t292, .int .u64 t295, .int .u64 t296, .int .i64 t293] rfl (by (try simp only [List.map_toArray, List.map_cons, List.map_nil]); first | done | rfl | (simp only [List.length_drop, List.length_take]; rfl)) ?_; (with_reducible refine (mandrelref02_divided.calls t292 t295 t296 t293 t350 t351 _ A79.out).mono ?_); rintro e w' ⟨rfl, ⟨nd, rfl⟩⟩; refine ⟨_, rfl, ?_⟩))
                            go_ret3
                            exact ⟨by first | rfl | (simp [errW_none, errW_some] <;> rfl) | (simp [*, errW_none, errW_some] <;> rfl), by repeat (first | (with_reducible first | exact HB.out | apply below_alloc | apply pw_below_drewN | apply below_drew1) | exact HB.out)⟩
                          · replace c78 := Bool.eq_false_iff.mpr c78
                            subst c78
                            have H1 : (if (IntKind.u64.wrap (t293)) = 0 then (none) else ((mandrelref02_moved.f kj73 t292 t295 (wrap64 (Int.tmod t296 (IntKind.u64.wrap (t293)))) t293).bind fun t352 => (some (t352, 0, true)))) = some (r1, r2, r3) := by rw [if_neg (show ¬ (false = true) by decide)] at H; exact H
                            clear H
                            have H := H1
                            clear H1
                            by_cases c80 : (IntKind.u64.wrap (t293)) = 0
                            · rw [if_pos c80] at H
                              exact absurd H (by simp)
                            · rw [if_neg c80] at H
                              have c80b0 : ((IntKind.u64.wrap (t293)) == 0) = false := beq_eq_false_iff_ne.mpr c80
                              have c80b1 : ((IntKind.u64.wrap (t293)) != 0) = true := bne_iff_ne.mpr c80
                              replace H := Option.bind_eq_some_iff.mp H
                              obtain ⟨t352, A810, H⟩ := H
                              replace H : (some (t352, 0, true)) = some (r1, r2, r3) := H
                              have A81 := Aside0.mk A810
                              clear A810
                              simp only [Option.some.injEq, Prod.mk.injEq] at H
                              obtain ⟨rfl, rfl, rfl⟩ := H
                              go_wp2_with (first | ((with_reducible refine gate_callee (f := 32) rfl ?_); refine goesL_ (some 138) rfl rfl Tryd.func32 (by kernel_rfl) rfl #[.string t292, .int .u64 t295, .int .i64 (wrap64 (Int.tmod t296 (IntKind.u64.wrap (t293)))), .int .i64 t293] rfl (by (try simp only [List.map_toArray, List.map_cons, List.map_nil]); first | done | rfl | (simp only [List.length_drop, List.length_take]; rfl)) ?_; (with_reducible refine (mandrelref02_moved.calls kj73 t292 t295 (wrap64 (Int.tmod t296 (IntKind.u64.wrap (t293)))) t293 t352 _ A81.out).mono ?_); rintro e w82 ⟨rfl, hb⟩; refine ⟨_, rfl, ?_⟩; have n0_ := Aside0.mk (below_step (by repeat (first | (with_reducible first | exact HB.out | apply below_alloc | apply pw_below_drewN | apply below_drew1) | exact HB.out)) hb); clear HB; have HB := n0_; clear n0_; (try clear hb); (try clear hb2); (try clear hk); (try clear hi)))
                              go_ret3
                              exact ⟨by first | rfl | (simp [errW_none, errW_some] <;> rfl) | (simp [*, errW_none, errW_some] <;> rfl), by repeat (first | (with_reducible first | exact HB.out | apply below_alloc | apply pw_below_drewN | apply below_drew1) | exact HB.out)⟩

end Go.Proofs.YtkpafgnchdohaaaDoor.XN
