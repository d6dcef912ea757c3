/- Functions of the Go program as Lean functions, and the proofs that the Go code answers as they do. Written by a program of this session. -/
import Derived.Test.YtolhijnkgkfjgaaChk
import Derived.Test.YtolhijnkgkfjgaaXCx0
import Derived.Test.YtolhijnkgkfjgaaXDx1
import Derived.Test.YtolhijnkgkfjgaaXDx2
-- slim
namespace Go.Proofs.Ytolhijnkgkfjgaa.XC
open Go.RowKit Go.Proofs.YtolhijnkgkfjgaaW.PrintWords Go.Proofs.YtolhijnkgkfjgaaW.PrintLast Go.Proofs.YtolhijnkgkfjgaaW.PrintMore
attribute [local go_sem] max2_int min2_int max_two min_two max_three min_three max_four min_four   -- for this text's walks alone
set_option linter.unusedVariables false
set_option linter.unusedSimpArgs false

/-! ### mandrellaw19_ScanTight: function 4 -/
mutual
def mandrellaw19_ScanTight.j0 : Nat → List (S43) → Int → Bool → Option (Bool)
 | 0, _, _, _ => none
 | k + 1, x0, x1, x27 => if x27 = true then ((mandrellaw19_sure.f).bind fun t144 => (some t144)) else ((mandrellaw19_giveSpans.f k x0).bind fun t145 => ((scan_Assign.f k t145 (wrap64 (1 + (wrap64 (Int.tmod (IntKind.u64.wrap (x1)) 8))))).bind fun bt148 => ((scan_Assign.f k t145 (wrap64 ((wrap64 (1 + (wrap64 (Int.tmod (IntKind.u64.wrap (x1)) 8)))) + 1))).bind fun bt153 => (if bt148.2.2.isNone = true then (if bt153.2.2.isNone = true then (mandrellaw19_ScanTight.j1 k x0 (wrap64 (1 + (wrap64 (Int.tmod (IntKind.u64.wrap (x1)) 8)))) t145 bt148.1 ((bt148.1.length : Int) != (x0.length : Int))) else (mandrellaw19_ScanTight.j1 k x0 (wrap64 (1 + (wrap64 (Int.tmod (IntKind.u64.wrap (x1)) 8)))) t145 bt148.1 true)) else (mandrellaw19_ScanTight.j1 k x0 (wrap64 (1 + (wrap64 (Int.tmod (IntKind.u64.wrap (x1)) 8)))) t145 bt148.1 true)))))
def mandrellaw19_ScanTight.j1 : Nat → List (S43) → Int → List (S28) → List Int → Bool → Option (Bool)
 | 0, _, _, _, _, _ => none
 | k + 1, x0, x5, x6, x7, x63 => if x63 = true then (some false) else (mandrellaw19_ScanTight.l0 k x0 x5 x6 x7 0)
def mandrellaw19_ScanTight.l0 : Nat → List (S43) → Int → List (S28) → List Int → Int → Option (Bool)
 | 0, _, _, _, _, _ => none
 | k + 1, x0, x5, x6, x7, x13 => if x13 < (x7.length : Int) then (if 0 ≤ x13 then (if (rd x7 x13) < 256 then (mandrellaw19_ScanTight.l0 k x0 x5 x6 x7 (wrap64 (x13 + 1))) else (mandrellaw19_ScanTight.l1 k x0 x5 x6 x7 x13 0)) else (none)) else (mandrellaw19_ScanTight.l3 k x0 x5 x6 x7 0)
def mandrellaw19_ScanTight.l1 : Nat → List (S43) → Int → List (S28) → List Int → Int → Int → Option (Bool)
 | 0, _, _, _, _, _, _ => none
 | k + 1, x0, x5, x6, x7, x13, x14 => if x14 < x5 then (mandrellaw19_ScanTight.l2 k x0 x5 x6 x7 x13 x14 false 0) else (mandrellaw19_ScanTight.l0 k x0 x5 x6 x7 (wrap64 (x13 + 1)))
def mandrellaw19_ScanTight.l2 : Nat → List (S43) → Int → List (S28) → List Int → Int → Int → Bool → Int → Option (Bool)
 | 0, _, _, _, _, _, _, _, _ => none
 | k + 1, x0, x5, x6, x7, x13, x14, x15, x16 => if x16 < (x7.length : Int) then (if x15 = true then (mandrellaw19_ScanTight.l2 k x0 x5 x6 x7 x13 x14 true (wrap64 (x16 + 1))) else (if 0 ≤ x16 then (if (rd x7 x16) = x14 then (if 0 ≤ x13 then (if x13 < (x6.length : Int) then (if x16 < (x6.length : Int) then ((span_Meet.f k ((rd_T28 x6 x13).f0) ((rd_T28 x6 x13).f1) ((rd_T28 x6 x16).f0) ((rd_T28 x6 x16).f1)).bind fun t164 => (mandrellaw19_ScanTight.l2 k x0 x5 x6 x7 x13 x14 t164 (wrap64 (x16 + 1)))) else (none)) else (none)) else (none)) else (mandrellaw19_ScanTight.l2 k x0 x5 x6 x7 x13 x14 false (wrap64 (x16 + 1)))) else (none))) else (if x15 = true then (mandrellaw19_ScanTight.l1 k x0 x5 x6 x7 x13 (wrap64 (x14 + 1))) else (some false))
def mandrellaw19_ScanTight.l3 : Nat → List (S43) → Int → List (S28) → List Int → Int → Option (Bool)
 | 0, _, _, _, _, _ => none
 | k + 1, x0, x5, x6, x7, x17 => if x17 < (x0.length : Int) then (if 0 ≤ x17 then (if x17 ≤ (wrap64 (x17 + 1)) then (if (wrap64 (x17 + 1)) ≤ (x6.length : Int) then ((scan_Assign.f k ((x6.take ((wrap64 (x17 + 1)) : Int).toNat).drop (x17 : Int).toNat) x5).bind fun bt169 => (if bt169.2.2.isNone = true then (if bt169.2.1 = 0 then (if (bt169.1.length : Int) = 1 then (if (((rd_T43 x0 x17).f0).length : Int) > 0 then (if 0 < (bt169.1.length : Int) then (if (rd bt169.1 0) < 0 then (some false) else (if (rd bt169.1 0) ≥ x5 then (some false) else (mandrellaw19_ScanTight.l3 k x0 x5 x6 x7 (wrap64 (x17 + 1))))) else (none)) else (mandrellaw19_ScanTight.l3 k x0 x5 x6 x7 (wrap64 (x17 + 1)))) else (some false)) else (some false)) else (some false))) else (none)) else (none)) else (none)) else ((scan_Check.f k x6 x5 x7).bind fun t178 => (if t178.isNone = true then ((mandrellaw19_sure.f).bind fun t180 => (some t180)) else (some false)))
end
def mandrellaw19_ScanTight.f (k : Nat) (l0 : List (S43)) (a1 : Int) : Option (Bool) := (mandrellaw19_many.f k l0).bind fun t142 => (if t142 = true then (mandrellaw19_ScanTight.j0 k l0 a1 true) else ((mandrellaw19_may.f k l0).bind fun t143 => (mandrellaw19_ScanTight.j0 k l0 a1 (!t143))))
theorem mandrellaw19_ScanTight.mono_l : ∀ k, (∀ y0 y1 y2, LeO (mandrellaw19_ScanTight.j0 k y0 y1 y2) (mandrellaw19_ScanTight.j0 (k + 1) y0 y1 y2)) ∧ (∀ y0 y1 y2 y3 y4, LeO (mandrellaw19_ScanTight.j1 k y0 y1 y2 y3 y4) (mandrellaw19_ScanTight.j1 (k + 1) y0 y1 y2 y3 y4)) ∧ (∀ y0 y1 y2 y3 y4, LeO (mandrellaw19_ScanTight.l0 k y0 y1 y2 y3 y4) (mandrellaw19_ScanTight.l0 (k + 1) y0 y1 y2 y3 y4)) ∧ (∀ y0 y1 y2 y3 y4 y5, LeO (mandrellaw19_ScanTight.l1 k y0 y1 y2 y3 y4 y5) (mandrellaw19_ScanTight.l1 (k + 1) y0 y1 y2 y3 y4 y5)) ∧ (∀ y0 y1 y2 y3 y4 y5 y6 y7, LeO (mandrellaw19_ScanTight.l2 k y0 y1 y2 y3 y4 y5 y6 y7) (mandrellaw19_ScanTight.l2 (k + 1) y0 y1 y2 y3 y4 y5 y6 y7)) ∧ (∀ y0 y1 y2 y3 y4, LeO (mandrellaw19_ScanTight.l3 k y0 y1 y2 y3 y4) (mandrellaw19_ScanTight.l3 (k + 1) y0 y1 y2 y3 y4))
 | 0 => ⟨fun _ _ _ r h => by simp [mandrellaw19_ScanTight.j0] at h, fun _ _ _ _ _ r h => by simp [mandrellaw19_ScanTight.j1] at h, fun _ _ _ _ _ r h => by simp [mandrellaw19_ScanTight.l0] at h, fun _ _ _ _ _ _ r h => by simp [mandrellaw19_ScanTight.l1] at h, fun _ _ _ _ _ _ _ _ r h => by simp [mandrellaw19_ScanTight.l2] at h, fun _ _ _ _ _ r h => by simp [mandrellaw19_ScanTight.l3] at h⟩
 | k + 1 => by
  obtain ⟨ih0, ih1, ih2, ih3, ih4, ih5⟩ := mandrellaw19_ScanTight.mono_l k
  refine ⟨?_, ?_, ?_, ?_, ?_, ?_⟩
  ·intro y0 y1 y2
   unfold mandrellaw19_ScanTight.j0
   repeat' first
   | (with_reducible exact ih0 _ _ _)
   | (with_reducible exact ih1 _ _ _ _ _)
   | (with_reducible exact ih2 _ _ _ _ _)
   | (with_reducible exact ih3 _ _ _ _ _ _)
   | (with_reducible exact ih4 _ _ _ _ _ _ _ _)
   | (with_reducible exact ih5 _ _ _ _ _)
   | (with_reducible exact mandrellaw19_giveSpans.mono _ _)
   | (with_reducible exact mandrellaw19_many.mono _ _)
   | (with_reducible exact mandrellaw19_may.mono _ _)
   | (with_reducible exact scan_Assign.mono _ _ _)
   | (with_reducible exact scan_Check.mono _ _ _ _)
   | (with_reducible exact span_Meet.mono _ _ _ _ _)
   | (with_reducible exact LeO.refl _)
   | (with_reducible exact LeO.none _)
   | (with_reducible refine LeO.ite ?_ ?_)
   | (with_reducible refine LeO.bind ?_ (fun _ => ?_))
   | exact ih0 _ _ _
   | exact ih1 _ _ _ _ _
   | exact ih2 _ _ _ _ _
   | exact ih3 _ _ _ _ _ _
   | exact ih4 _ _ _ _ _ _ _ _
   | exact ih5 _ _ _ _ _
   | exact mandrellaw19_giveSpans.mono _ _
   | exact mandrellaw19_many.mono _ _
   | exact mandrellaw19_may.mono _ _
   | exact scan_Assign.mono _ _ _
   | exact scan_Check.mono _ _ _ _
   | exact span_Meet.mono _ _ _ _ _
   | exact LeO.none _
   | refine LeO.ite ?_ ?_
   | refine LeO.bind ?_ (fun _ => ?_)
  ·intro y0 y1 y2 y3 y4
   unfold mandrellaw19_ScanTight.j1
   repeat' first
   | (with_reducible exact ih0 _ _ _)
   | (with_reducible exact ih1 _ _ _ _ _)
   | (with_reducible exact ih2 _ _ _ _ _)
   | (with_reducible exact ih3 _ _ _ _ _ _)
   | (with_reducible exact ih4 _ _ _ _ _ _ _ _)
   | (with_reducible exact ih5 _ _ _ _ _)
   | (with_reducible exact mandrellaw19_giveSpans.mono _ _)
   | (with_reducible exact mandrellaw19_many.mono _ _)
   | (with_reducible exact mandrellaw19_may.mono _ _)
   | (with_reducible exact scan_Assign.mono _ _ _)
   | (with_reducible exact scan_Check.mono _ _ _ _)
   | (with_reducible exact span_Meet.mono _ _ _ _ _)
   | (with_reducible exact LeO.refl _)
   | (with_reducible exact LeO.none _)
   | (with_reducible refine LeO.ite ?_ ?_)
   | (with_reducible refine LeO.bind ?_ (fun _ => ?_))
   | exact ih0 _ _ _
   | exact ih1 _ _ _ _ _
   | exact ih2 _ _ _ _ _
   | exact ih3 _ _ _ _ _ _
   | exact ih4 _ _ _ _ _ _ _ _
   | exact ih5 _ _ _ _ _
   | exact mandrellaw19_giveSpans.mono _ _
   | exact mandrellaw19_many.mono _ _
   | exact mandrellaw19_may.mono _ _
   | exact scan_Assign.mono _ _ _
   | exact scan_Check.mono _ _ _ _
   | exact span_Meet.mono _ _ _ _ _
   | exact LeO.none _
   | refine LeO.ite ?_ ?_
   | refine LeO.bind ?_ (fun _ => ?_)
  ·intro y0 y1 y2 y3 y4
   unfold mandrellaw19_ScanTight.l0
   repeat' first
   | (with_reducible exact ih0 _ _ _)
   | (with_reducible exact ih1 _ _ _ _ _)
   | (with_reducible exact ih2 _ _ _ _ _)
   | (with_reducible exact ih3 _ _ _ _ _ _)
   | (with_reducible exact ih4 _ _ _ _ _ _ _ _)
   | (with_reducible exact ih5 _ _ _ _ _)
   | (with_reducible exact mandrellaw19_giveSpans.mono _ _)
   | (with_reducible exact mandrellaw19_many.mono _ _)
   | (with_reducible exact mandrellaw19_may.mono _ _)
   | (with_reducible exact scan_Assign.mono _ _ _)
   | (with_reducible exact scan_Check.mono _ _ _ _)
   | (with_reducible exact span_Meet.mono _ _ _ _ _)
   | (with_reducible exact LeO.refl _)
   | (with_reducible exact LeO.none _)
   | (with_reducible refine LeO.ite ?_ ?_)
   | (with_reducible refine LeO.bind ?_ (fun _ => ?_))
   | exact ih0 _ _ _
   | exact ih1 _ _ _ _ _
   | exact ih2 _ _ _ _ _
   | exact ih3 _ _ _ _ _ _
   | exact ih4 _ _ _ _ _ _ _ _
   | exact ih5 _ _ _ _ _
   | exact mandrellaw19_giveSpans.mono _ _
   | exact mandrellaw19_many.mono _ _
   | exact mandrellaw19_may.mono _ _
   | exact scan_Assign.mono _ _ _
   | exact scan_Check.mono _ _ _ _
   | exact span_Meet.mono _ _ _ _ _
   | exact LeO.none _
   | refine LeO.ite ?_ ?_
   | refine LeO.bind ?_ (fun _ => ?_)
  ·intro y0 y1 y2 y3 y4 y5
   unfold mandrellaw19_ScanTight.l1
   repeat' first
   | (with_reducible exact ih0 _ _ _)
   | (with_reducible exact ih1 _ _ _ _ _)
   | (with_reducible exact ih2 _ _ _ _ _)
   | (with_reducible exact ih3 _ _ _ _ _ _)
   | (with_reducible exact ih4 _ _ _ _ _ _ _ _)
   | (with_reducible exact ih5 _ _ _ _ _)
   | (with_reducible exact mandrellaw19_giveSpans.mono _ _)
   | (with_reducible exact mandrellaw19_many.mono _ _)
   | (with_reducible exact mandrellaw19_may.mono _ _)
   | (with_reducible exact scan_Assign.mono _ _ _)
   | (with_reducible exact scan_Check.mono _ _ _ _)
   | (with_reducible exact span_Meet.mono _ _ _ _ _)
   | (with_reducible exact LeO.refl _)
   | (with_reducible exact LeO.none _)
   | (with_reducible refine LeO.ite ?_ ?_)
   | (with_reducible refine LeO.bind ?_ (fun _ => ?_))
   | exact ih0 _ _ _
   | exact ih1 _ _ _ _ _
   | exact ih2 _ _ _ _ _
   | exact ih3 _ _ _ _ _ _
   | exact ih4 _ _ _ _ _ _ _ _
   | exact ih5 _ _ _ _ _
   | exact mandrellaw19_giveSpans.mono _ _
   | exact mandrellaw19_many.mono _ _
   | exact mandrellaw19_may.mono _ _
   | exact scan_Assign.mono _ _ _
   | exact scan_Check.mono _ _ _ _
   | exact span_Meet.mono _ _ _ _ _
   | exact LeO.none _
   | refine LeO.ite ?_ ?_
   | refine LeO.bind ?_ (fun _ => ?_)
  ·intro y0 y1 y2 y3 y4 y5 y6 y7
   unfold mandrellaw19_ScanTight.l2
   repeat' first
   | (with_reducible exact ih0 _ _ _)
   | (with_reducible exact ih1 _ _ _ _ _)
   | (with_reducible exact ih2 _ _ _ _ _)
   | (with_reducible exact ih3 _ _ _ _ _ _)
   | (with_reducible exact ih4 _ _ _ _ _ _ _ _)
   | (with_reducible exact ih5 _ _ _ _ _)
   | (with_reducible exact mandrellaw19_giveSpans.mono _ _)
   | (with_reducible exact mandrellaw19_many.mono _ _)
   | (with_reducible exact mandrellaw19_may.mono _ _)
   | (with_reducible exact scan_Assign.mono _ _ _)
   | (with_reducible exact scan_Check.mono _ _ _ _)
   | (with_reducible exact span_Meet.mono _ _ _ _ _)
   | (with_reducible exact LeO.refl _)
   | (with_reducible exact LeO.none _)
   | (with_reducible refine LeO.ite ?_ ?_)
   | (with_reducible refine LeO.bind ?_ (fun _ => ?_))
   | exact ih0 _ _ _
   | exact ih1 _ _ _ _ _
   | exact ih2 _ _ _ _ _
   | exact ih3 _ _ _ _ _ _
   | exact ih4 _ _ _ _ _ _ _ _
   | exact ih5 _ _ _ _ _
   | exact mandrellaw19_giveSpans.mono _ _
   | exact mandrellaw19_many.mono _ _
   | exact mandrellaw19_may.mono _ _
   | exact scan_Assign.mono _ _ _
   | exact scan_Check.mono _ _ _ _
   | exact span_Meet.mono _ _ _ _ _
   | exact LeO.none _
   | refine LeO.ite ?_ ?_
   | refine LeO.bind ?_ (fun _ => ?_)
  ·intro y0 y1 y2 y3 y4
   unfold mandrellaw19_ScanTight.l3
   repeat' first
   | (with_reducible exact ih0 _ _ _)
   | (with_reducible exact ih1 _ _ _ _ _)
   | (with_reducible exact ih2 _ _ _ _ _)
   | (with_reducible exact ih3 _ _ _ _ _ _)
   | (with_reducible exact ih4 _ _ _ _ _ _ _ _)
   | (with_reducible exact ih5 _ _ _ _ _)
   | (with_reducible exact mandrellaw19_giveSpans.mono _ _)
   | (with_reducible exact mandrellaw19_many.mono _ _)
   | (with_reducible exact mandrellaw19_may.mono _ _)
   | (with_reducible exact scan_Assign.mono _ _ _)
   | (with_reducible exact scan_Check.mono _ _ _ _)
   | (with_reducible exact span_Meet.mono _ _ _ _ _)
   | (with_reducible exact LeO.refl _)
   | (with_reducible exact LeO.none _)
   | (with_reducible refine LeO.ite ?_ ?_)
   | (with_reducible refine LeO.bind ?_ (fun _ => ?_))
   | exact ih0 _ _ _
   | exact ih1 _ _ _ _ _
   | exact ih2 _ _ _ _ _
   | exact ih3 _ _ _ _ _ _
   | exact ih4 _ _ _ _ _ _ _ _
   | exact ih5 _ _ _ _ _
   | exact mandrellaw19_giveSpans.mono _ _
   | exact mandrellaw19_many.mono _ _
   | exact mandrellaw19_may.mono _ _
   | exact scan_Assign.mono _ _ _
   | exact scan_Check.mono _ _ _ _
   | exact span_Meet.mono _ _ _ _ _
   | exact LeO.none _
   | refine LeO.ite ?_ ?_
   | refine LeO.bind ?_ (fun _ => ?_)
theorem mandrellaw19_ScanTight.mono : ∀ a0 a1 k, LeO (mandrellaw19_ScanTight.f k a0 a1) (mandrellaw19_ScanTight.f (k + 1) a0 a1) := by
 intro a0 a1 k
 obtain ⟨ih0, ih1, ih2, ih3, ih4, ih5⟩ := mandrellaw19_ScanTight.mono_l k
 unfold mandrellaw19_ScanTight.f
 repeat' first
   | (with_reducible exact ih0 _ _ _)
   | (with_reducible exact ih1 _ _ _ _ _)
   | (with_reducible exact ih2 _ _ _ _ _)
   | (with_reducible exact ih3 _ _ _ _ _ _)
   | (with_reducible exact ih4 _ _ _ _ _ _ _ _)
   | (with_reducible exact ih5 _ _ _ _ _)
   | (with_reducible exact mandrellaw19_giveSpans.mono _ _)
   | (with_reducible exact mandrellaw19_many.mono _ _)
   | (with_reducible exact mandrellaw19_may.mono _ _)
   | (with_reducible exact scan_Assign.mono _ _ _)
   | (with_reducible exact scan_Check.mono _ _ _ _)
   | (with_reducible exact span_Meet.mono _ _ _ _ _)
   | (with_reducible exact LeO.refl _)
   | (with_reducible exact LeO.none _)
   | (with_reducible refine LeO.ite ?_ ?_)
   | (with_reducible refine LeO.bind ?_ (fun _ => ?_))
   | exact ih0 _ _ _
   | exact ih1 _ _ _ _ _
   | exact ih2 _ _ _ _ _
   | exact ih3 _ _ _ _ _ _
   | exact ih4 _ _ _ _ _ _ _ _
   | exact ih5 _ _ _ _ _
   | exact mandrellaw19_giveSpans.mono _ _
   | exact mandrellaw19_many.mono _ _
   | exact mandrellaw19_may.mono _ _
   | exact scan_Assign.mono _ _ _
   | exact scan_Check.mono _ _ _ _
   | exact span_Meet.mono _ _ _ _ _
   | exact LeO.none _
   | refine LeO.ite ?_ ?_
   | refine LeO.bind ?_ (fun _ => ?_)
def mandrellaw19_ScanTight.T20 : Bool × List (List Nat × List Nat) := (true, [([], []), ([0], [0]), ([1], [1]), ([1], [1]), ([2, 3, 1], [1, 2, 3]), ([4, 1], [1, 4]), ([1], [1]), ([5, 6, 1], [1, 5, 6]), ([7, 1, 1], [1, 7]), ([8], [8]), ([8], [8]), ([9, 10, 8], [8, 9, 10]), ([11, 8], [8, 11]), ([8], [8]), ([8], [8]), ([13, 14, 8], [8, 13, 14]), ([15, 8], [8, 15]), ([12, 16, 8, 8], [8, 12, 16]), ([8, 17, 1], [1, 8, 17]), ([1, 18], [1, 18]), ([19, 17, 0, 1, 2, 3, 4, 5, 6, 7, 8, 9, 10, 11, 12, 13, 14, 15, 16, 17, 18, 19], [0, 19])])
def mandrellaw19_ScanTight.B20 : List Nat := [0, 1, 3, 3, 15, 31, 3, 127, 255, 511, 511, 2047, 4095, 511, 511, 25087, 57855, 131071, 262143, 524287, 1048575]
theorem mandrellaw19_ScanTight.tab20 : rtab .any (opsOf Try.f4 20) = mandrellaw19_ScanTight.T20 := by kernel_rfl
theorem mandrellaw19_ScanTight.bits20 : waitsOk mandrellaw19_ScanTight.T20.2 mandrellaw19_ScanTight.B20 = true := by kernel_rfl
set_option maxHeartbeats 8000000 in
set_option maxRecDepth 100000 in
theorem mandrellaw19_ScanTight.calls (k : Nat) (A0 : Option Addr) (c0 : Nat) (l0 : List (S43)) (a1 : Int) (r : Bool) (w : World) (hr0 : Kd.C k43 w A0 l0.length l0) (hc0 : l0.length ≤ c0) (h : mandrellaw19_ScanTight.f k l0 a1 = some r) :
  Calls Try.prog 4 #[.slice A0 l0.length c0, .int .i64 a1] w fun e w' => e = .returned (.bool r) ∧ Below w.heap.size w w' := by
 have hu28 := Try.underlying28
 have hu31 := Try.underlying31
 have HR0 := Aside0.mk hr0
 have HC0 := Aside0.mk hc0
 clear hr0 hc0
 have HB := Aside0.mk (Below.refl w.heap.size w)
 have H : ((mandrellaw19_many.f k l0).bind fun t142 => (if t142 = true then (mandrellaw19_ScanTight.j0 k l0 a1 true) else ((mandrellaw19_may.f k l0).bind fun t143 => (mandrellaw19_ScanTight.j0 k l0 a1 (!t143))))) = some r := h
 clear h
 have HC3 := Aside0.mk H
 clear H
 go_enter Try.func4, Try.ntmps4
 go_upto_region 1 with (fail)
 go_cut [27] (fun v27 wc => ∃ (kq : Nat) (x27_2 : Bool), v27 = .bool x27_2 ∧ Aside0 (mandrellaw19_ScanTight.j0 kq l0 a1 x27_2 = some r) ∧ Aside0 (kq ≤ k) ∧ Aside0 (Below w.heap.size w wc))
 case first =>
  have H := HC3.out
  clear HC3
  replace H := Option.bind_eq_some_iff.mp H
  obtain ⟨t142, A40, H⟩ := H
  replace H : (if t142 = true then (mandrellaw19_ScanTight.j0 k l0 a1 true) else ((mandrellaw19_may.f k l0).bind fun t143 => (mandrellaw19_ScanTight.j0 k l0 a1 (!t143)))) = some r := H
  have A4 := Aside0.mk A40
  clear A40
  by_cases c5 : t142 = true
  ·subst c5
   have H1 : (mandrellaw19_ScanTight.j0 k l0 a1 true) = some r := by rw [if_pos rfl] at H; exact H
   clear H
   have H := H1
   clear H1
   have H' := Aside0.mk H
   clear H
   go_wp2_with (first | ((with_reducible refine gate_callee (f := 9) rfl ?_); refine goesL_ (some 22) rfl rfl Try.func9 (by kernel_rfl) rfl #[.slice A0 l0.length c0] rfl (by (try simp only [List.map_toArray, List.map_cons, List.map_nil]); first | done | rfl | (simp only [List.length_drop, List.length_take]; rfl)) ?_; (with_reducible refine (mandrellaw19_many.calls k _ _ l0 true _ ?side1 ?side2 A4.out).mono ?_); (case side1 => repeat (first | exact (Kd.C_below HR0.out HB.out) | (with_reducible refine Kd.C_alloc ?_ _) | (with_reducible refine Kd.C_drewN ?_ _) | (with_reducible refine Kd.C_drew ?_))); (case side2 => exact HC0.out); rintro e w' ⟨rfl, ⟨nd, rfl⟩⟩; refine ⟨_, rfl, ?_⟩))
   go_meet
   case rel => exact ⟨_, (true), (by first | rfl | (simp; done) | (simp [*]; done)), H', ⟨by first | omega | exact Nat.le_refl _⟩, ⟨by repeat (first | (with_reducible first | exact HB.out | apply below_alloc | apply pw_below_drewN | apply below_drew1) | exact HB.out)⟩⟩
  ·replace c5 := Bool.eq_false_iff.mpr c5
   subst c5
   have H1 : ((mandrellaw19_may.f k l0).bind fun t143 => (mandrellaw19_ScanTight.j0 k l0 a1 (!t143))) = some r := by rw [if_neg (show ¬ (false = true) by decide)] at H; exact H
   clear H
   have H := H1
   clear H1
   replace H := Option.bind_eq_some_iff.mp H
   obtain ⟨t143, A60, H⟩ := H
   replace H : (mandrellaw19_ScanTight.j0 k l0 a1 (!t143)) = some r := H
   have A6 := Aside0.mk A60
   clear A60
   have H' := Aside0.mk H
   clear H
   go_wp2_with (first | ((with_reducible refine gate_callee (f := 9) rfl ?_); refine goesL_ (some 22) rfl rfl Try.func9 (by kernel_rfl) rfl #[.slice A0 l0.length c0] rfl (by (try simp only [List.map_toArray, List.map_cons, List.map_nil]); first | done | rfl | (simp only [List.length_drop, List.length_take]; rfl)) ?_; (with_reducible refine (mandrellaw19_many.calls k _ _ l0 false _ ?side1 ?side2 A4.out).mono ?_); (case side1 => repeat (first | exact (Kd.C_below HR0.out HB.out) | (with_reducible refine Kd.C_alloc ?_ _) | (with_reducible refine Kd.C_drewN ?_ _) | (with_reducible refine Kd.C_drew ?_))); (case side2 => exact HC0.out); rintro e w' ⟨rfl, ⟨nd, rfl⟩⟩; refine ⟨_, rfl, ?_⟩) | (go_at_call 10; (with_reducible refine (mandrellaw19_may.calls k _ _ l0 t143 _ ?side1 ?side2 A6.out).mono ?_); (case side1 => repeat (first | exact (Kd.C_below HR0.out (by repeat (first | (with_reducible first | exact HB.out | apply below_alloc | apply pw_below_drewN | apply below_drew1) | exact HB.out))) | (with_reducible refine Kd.C_alloc ?_ _) | (with_reducible refine Kd.C_drewN ?_ _) | (with_reducible refine Kd.C_drew ?_))); (case side2 => exact HC0.out); rintro e w7 ⟨rfl, hb⟩; have n0_ := Aside0.mk (below_step (by repeat (first | (with_reducible first | exact HB.out | apply below_alloc | apply pw_below_drewN | apply below_drew1) | exact HB.out)) hb); clear HB; have HB := n0_; clear n0_; (try clear hb); (try clear hb2); (try clear hk); (try clear hi)))
   go_meet
   case rel => exact ⟨_, (!t143), (by first | rfl | (simp; done) | (simp [*]; done)), H', ⟨by first | omega | exact Nat.le_refl _⟩, ⟨by repeat (first | (with_reducible first | exact HB.out | apply below_alloc | apply pw_below_drewN | apply below_drew1) | exact HB.out)⟩⟩
 case rest =>
  clear HC3
  (try clear p2); (try clear c4); (try clear c5)
  obtain ⟨kq, x27_2, rfl, HA, HJ2, HB⟩ := hcut
  cases kq with
  | zero => exact absurd HA.out (by simp [mandrellaw19_ScanTight.j0])
  | succ kj2 =>
   have H := HA.out
   clear HA
   simp only [mandrellaw19_ScanTight.j0] at H
   by_cases c8 : x27_2 = true
   ·subst c8
    have H1 : ((mandrellaw19_sure.f).bind fun t144 => (some t144)) = some r := by rw [if_pos rfl] at H; exact H
    clear H
    have H := H1
    clear H1
    replace H := Option.bind_eq_some_iff.mp H
    obtain ⟨t144, A90, H⟩ := H
    replace H : (some t144) = some r := H
    have A9 := Aside0.mk A90
    clear A90
    obtain rfl := Option.some.inj H
    go_wp2_with (first | ((with_reducible refine gate_callee (f := 8) rfl ?_); refine goesL_ (some 28) rfl rfl Try.func8 (by kernel_rfl) rfl #[] rfl (by (try simp only [List.map_toArray, List.map_cons, List.map_nil]); first | done | rfl | (simp only [List.length_drop, List.length_take]; rfl)) ?_; (with_reducible refine (mandrellaw19_sure.calls  t144 _ A9.out).mono ?_); rintro e w10 ⟨rfl, hb⟩; refine ⟨_, rfl, ?_⟩; have n0_ := Aside0.mk (below_step (by repeat (first | (with_reducible first | exact HB.out | apply below_alloc | apply pw_below_drewN | apply below_drew1) | exact HB.out)) hb); clear HB; have HB := n0_; clear n0_; (try clear hb); (try clear hb2); (try clear hk); (try clear hi)))
    go_ret
    exact ⟨by first | rfl | (simp [errW_none, errW_some] <;> rfl) | (simp [*, errW_none, errW_some] <;> rfl), by repeat (first | (with_reducible first | exact HB.out | apply below_alloc | apply pw_below_drewN | apply below_drew1) | exact HB.out)⟩
   ·replace c8 := Bool.eq_false_iff.mpr c8
    subst c8
    have H1 : ((mandrellaw19_giveSpans.f kj2 l0).bind fun t145 => ((scan_Assign.f kj2 t145 (wrap64 (1 + (wrap64 (Int.tmod (IntKind.u64.wrap (a1)) 8))))).bind fun bt148 => ((scan_Assign.f kj2 t145 (wrap64 ((wrap64 (1 + (wrap64 (Int.tmod (IntKind.u64.wrap (a1)) 8)))) + 1))).bind fun bt153 => (if bt148.2.2.isNone = true then (if bt153.2.2.isNone = true then (mandrellaw19_ScanTight.j1 kj2 l0 (wrap64 (1 + (wrap64 (Int.tmod (IntKind.u64.wrap (a1)) 8)))) t145 bt148.1 ((bt148.1.length : Int) != (l0.length : Int))) else (mandrellaw19_ScanTight.j1 kj2 l0 (wrap64 (1 + (wrap64 (Int.tmod (IntKind.u64.wrap (a1)) 8)))) t145 bt148.1 true)) else (mandrellaw19_ScanTight.j1 kj2 l0 (wrap64 (1 + (wrap64 (Int.tmod (IntKind.u64.wrap (a1)) 8)))) t145 bt148.1 true))))) = some r := by rw [if_neg (show ¬ (false = true) by decide)] at H; exact H
    clear H
    have H := H1
    clear H1
    replace H := Option.bind_eq_some_iff.mp H
    obtain ⟨t145, A110, H⟩ := H
    replace H : ((scan_Assign.f kj2 t145 (wrap64 (1 + (wrap64 (Int.tmod (IntKind.u64.wrap (a1)) 8))))).bind fun bt148 => ((scan_Assign.f kj2 t145 (wrap64 ((wrap64 (1 + (wrap64 (Int.tmod (IntKind.u64.wrap (a1)) 8)))) + 1))).bind fun bt153 => (if bt148.2.2.isNone = true then (if bt153.2.2.isNone = true then (mandrellaw19_ScanTight.j1 kj2 l0 (wrap64 (1 + (wrap64 (Int.tmod (IntKind.u64.wrap (a1)) 8)))) t145 bt148.1 ((bt148.1.length : Int) != (l0.length : Int))) else (mandrellaw19_ScanTight.j1 kj2 l0 (wrap64 (1 + (wrap64 (Int.tmod (IntKind.u64.wrap (a1)) 8)))) t145 bt148.1 true)) else (mandrellaw19_ScanTight.j1 kj2 l0 (wrap64 (1 + (wrap64 (Int.tmod (IntKind.u64.wrap (a1)) 8)))) t145 bt148.1 true)))) = some r := H
    have A11 := Aside0.mk A110
    clear A110
    replace H := Option.bind_eq_some_iff.mp H
    obtain ⟨⟨t148, t149, t150⟩, A120, H⟩ := H
    replace H : ((scan_Assign.f kj2 t145 (wrap64 ((wrap64 (1 + (wrap64 (Int.tmod (IntKind.u64.wrap (a1)) 8)))) + 1))).bind fun bt153 => (if t150.isNone = true then (if bt153.2.2.isNone = true then (mandrellaw19_ScanTight.j1 kj2 l0 (wrap64 (1 + (wrap64 (Int.tmod (IntKind.u64.wrap (a1)) 8)))) t145 t148 ((t148.length : Int) != (l0.length : Int))) else (mandrellaw19_ScanTight.j1 kj2 l0 (wrap64 (1 + (wrap64 (Int.tmod (IntKind.u64.wrap (a1)) 8)))) t145 t148 true)) else (mandrellaw19_ScanTight.j1 kj2 l0 (wrap64 (1 + (wrap64 (Int.tmod (IntKind.u64.wrap (a1)) 8)))) t145 t148 true))) = some r := H
    have A12 := Aside0.mk A120
    clear A120
    replace H := Option.bind_eq_some_iff.mp H
    obtain ⟨⟨t153, t154, t155⟩, A130, H⟩ := H
    replace H : (if t150.isNone = true then (if t155.isNone = true then (mandrellaw19_ScanTight.j1 kj2 l0 (wrap64 (1 + (wrap64 (Int.tmod (IntKind.u64.wrap (a1)) 8)))) t145 t148 ((t148.length : Int) != (l0.length : Int))) else (mandrellaw19_ScanTight.j1 kj2 l0 (wrap64 (1 + (wrap64 (Int.tmod (IntKind.u64.wrap (a1)) 8)))) t145 t148 true)) else (mandrellaw19_ScanTight.j1 kj2 l0 (wrap64 (1 + (wrap64 (Int.tmod (IntKind.u64.wrap (a1)) 8)))) t145 t148 true)) = some r := H
    have A13 := Aside0.mk A130
    clear A130
    have HC14 := Aside0.mk H
    clear H
    go_upto_region 7 with (first | ((with_reducible refine gate_callee (f := 11) rfl ?_); refine goesL_ (some 35) rfl rfl Try.func11 (by kernel_rfl) rfl #[.slice A0 l0.length c0] rfl (by (try simp only [List.map_toArray, List.map_cons, List.map_nil]); first | done | rfl | (simp only [List.length_drop, List.length_take]; rfl)) ?_; (with_reducible refine (mandrellaw19_giveSpans.calls kj2 _ _ l0 t145 _ ?side1 ?side2 A11.out).mono ?_); (case side1 => repeat (first | exact (Kd.C_below HR0.out HB.out) | (with_reducible refine Kd.C_alloc ?_ _) | (with_reducible refine Kd.C_drewN ?_ _) | (with_reducible refine Kd.C_drew ?_))); (case side2 => exact HC0.out); rintro e w15 ⟨v146, rfl, ho0, hb⟩; refine ⟨_, rfl, ?_⟩; have n0_ := Aside0.mk (Kd.S_lower ho0 (below_size (by repeat (first | (with_reducible first | exact HB.out | apply below_alloc | apply pw_below_drewN | apply below_drew1) | exact HB.out)))); have n1_ := Aside0.mk (below_step (by repeat (first | (with_reducible first | exact HB.out | apply below_alloc | apply pw_below_drewN | apply below_drew1) | exact HB.out)) hb); clear HB; have HO147 := n0_; have HB := n1_; clear n0_ n1_; (try clear hb); (try clear hb2); (try clear hk); (try clear hi); (try clear ho0); obtain ⟨Ao16, co16, eo16⟩ := Kd.S_slice HO147.out; subst eo16) | ((with_reducible refine gate_callee (f := 6) rfl ?_); refine goesL_ (some 39) rfl rfl Try.func6 (by kernel_rfl) rfl #[.slice Ao16 t145.length co16, .int .i64 (wrap64 (1 + (wrap64 (Int.tmod (IntKind.u64.wrap (a1)) 8))))] rfl (by (try simp only [List.map_toArray, List.map_cons, List.map_nil]); first | done | rfl | (simp only [List.length_drop, List.length_take]; rfl)) ?_; (with_reducible refine (scan_Assign.calls kj2 _ _ t145 (wrap64 (1 + (wrap64 (Int.tmod (IntKind.u64.wrap (a1)) 8)))) t148 t149 t150 _ ?side1 ?side2 A12.out).mono ?_); (case side1 => repeat (first | exact (Kd.S_reads' HO147.out).2.2 | (with_reducible refine Kd.C_alloc ?_ _) | (with_reducible refine Kd.C_drewN ?_ _) | (with_reducible refine Kd.C_drew ?_))); (case side2 => exact (Kd.S_reads' HO147.out).2.1); rintro e w17 ⟨v151, rfl, ho0, hb⟩; refine ⟨_, rfl, ?_⟩; have n0_ := Aside0.mk (Kd.S_below (by (with_reducible repeat (first | apply Kd.S_alloc | apply Kd.S_drewN | apply Kd.S_drew)); exact HO147.out) hb); have n1_ := Aside0.mk (Kd.R_lower ho0 (below_size (by repeat (first | (with_reducible first | exact HB.out | apply below_alloc | apply pw_below_drewN | apply below_drew1) | exact HB.out)))); have n2_ := Aside0.mk (below_step (by repeat (first | (with_reducible first | exact HB.out | apply below_alloc | apply pw_below_drewN | apply below_drew1) | exact HB.out)) hb); clear HO147; clear HB; have HO147 := n0_; have HO152 := n1_; have HB := n2_; clear n0_ n1_ n2_; (try clear hb); (try clear hb2); (try clear hk); (try clear hi); (try clear ho0); (try simp only [errW_none, errW_some])) | ((with_reducible refine gate_callee (f := 6) rfl ?_); refine goesL_ (some 47) rfl rfl Try.func6 (by kernel_rfl) rfl #[.slice Ao16 t145.length co16, .int .i64 (wrap64 ((wrap64 (1 + (wrap64 (Int.tmod (IntKind.u64.wrap (a1)) 8)))) + 1))] rfl (by (try simp only [List.map_toArray, List.map_cons, List.map_nil]); first | done | rfl | (simp only [List.length_drop, List.length_take]; rfl)) ?_; (with_reducible refine (scan_Assign.calls kj2 _ _ t145 (wrap64 ((wrap64 (1 + (wrap64 (Int.tmod (IntKind.u64.wrap (a1)) 8)))) + 1)) t153 t154 t155 _ ?side1 ?side2 A13.out).mono ?_); (case side1 => repeat (first | exact (Kd.S_reads' HO147.out).2.2 | (with_reducible refine Kd.C_alloc ?_ _) | (with_reducible refine Kd.C_drewN ?_ _) | (with_reducible refine Kd.C_drew ?_))); (case side2 => exact (Kd.S_reads' HO147.out).2.1); rintro e w18 ⟨v156, rfl, ho0, hb⟩; refine ⟨_, rfl, ?_⟩; have n0_ := Aside0.mk (Kd.S_below (by (with_reducible repeat (first | apply Kd.S_alloc | apply Kd.S_drewN | apply Kd.S_drew)); exact HO147.out) hb); have n1_ := Aside0.mk (Kd.R_elder' (by (with_reducible repeat (first | apply Kd.R_alloc | apply Kd.R_drewN | apply Kd.R_drew)); exact HO152.out) (Kd.R_base ho0) hb); have n2_ := Aside0.mk (Kd.R_lower (Kd.R_new' ho0 (Kd.R_lt (by (with_reducible repeat (first | apply Kd.R_alloc | apply Kd.R_drewN | apply Kd.R_drew)); exact HO152.out))) (below_size (by repeat (first | (with_reducible first | exact HB.out | apply below_alloc | apply pw_below_drewN | apply below_drew1) | exact HB.out)))); have n3_ := Aside0.mk (below_step (by repeat (first | (with_reducible first | exact HB.out | apply below_alloc | apply pw_below_drewN | apply below_drew1) | exact HB.out)) hb); clear HO147; clear HO152; clear HB; have HO147 := n0_; have HO152 := n1_; have HO157 := n2_; have HB := n3_; clear n0_ n1_ n2_ n3_; (try clear hb); (try clear hb2); (try clear hk); (try clear hi); (try clear ho0); (try simp only [errW_none, errW_some])))
    (try simp only [Act.put, List.setIfInBounds_toArray, List.set_cons_zero, List.set_cons_succ])
    go_cut [63] (fun v63 wc => ∃ (kq : Nat) (x63_13 : Bool), v63 = .bool x63_13 ∧ Aside0 (mandrellaw19_ScanTight.j1 kq l0 (wrap64 (1 + (wrap64 (Int.tmod (IntKind.u64.wrap (a1)) 8)))) t145 t148 x63_13 = some r) ∧ Aside0 (kq ≤ kj2) ∧ Aside0 (Kd.S k28 28 wc w.heap.size (fun _ => True) (.slice Ao16 t145.length co16) t145) ∧ Aside0 (Kd.R (Kd.int .i64) 3 wc w.heap.size (fun _ => True) v151 t148) ∧ Aside0 (Below w.heap.size w wc))
    case first =>
     have H := HC14.out
     clear HC14
     rcases t150 with _ | q158
     ·have H1 : (if t155.isNone = true then (mandrellaw19_ScanTight.j1 kj2 l0 (wrap64 (1 + (wrap64 (Int.tmod (IntKind.u64.wrap (a1)) 8)))) t145 t148 ((t148.length : Int) != (l0.length : Int))) else (mandrellaw19_ScanTight.j1 kj2 l0 (wrap64 (1 + (wrap64 (Int.tmod (IntKind.u64.wrap (a1)) 8)))) t145 t148 true)) = some r := by rw [if_pos (show (none : Option Int).isNone = true by rfl)] at H; exact H
      clear H
      have H := H1
      clear H1
      try simp only [errW_none, errW_some]
      rcases t155 with _ | q159
      ·have H1 : (mandrellaw19_ScanTight.j1 kj2 l0 (wrap64 (1 + (wrap64 (Int.tmod (IntKind.u64.wrap (a1)) 8)))) t145 t148 ((t148.length : Int) != (l0.length : Int))) = some r := by rw [if_pos (show (none : Option Int).isNone = true by rfl)] at H; exact H
       clear H
       have H := H1
       clear H1
       try simp only [errW_none, errW_some]
       have H' := Aside0.mk H
       clear H
       obtain ⟨Ao19, co19, eo19⟩ := Kd.R_slice HO152.out
       subst eo19
       go_wp2
       go_meet
       case rel => exact ⟨_, (((t148.length : Int) != (l0.length : Int))), (by first | rfl | (simp; done) | (simp [*]; done)), H', ⟨by have := HJ2.out; first | omega | exact Nat.le_refl _⟩, ⟨by (with_reducible repeat (first | apply Kd.S_alloc | apply Kd.S_drewN | apply Kd.S_drew)); exact HO147.out⟩, ⟨by (with_reducible repeat (first | apply Kd.R_alloc | apply Kd.R_drewN | apply Kd.R_drew)); exact Kd.R_mono HO152.out (fun _ hk => trivial)⟩, ⟨by repeat (first | (with_reducible first | exact HB.out | apply below_alloc | apply pw_below_drewN | apply below_drew1) | exact HB.out)⟩⟩
      ·have H1 : (mandrellaw19_ScanTight.j1 kj2 l0 (wrap64 (1 + (wrap64 (Int.tmod (IntKind.u64.wrap (a1)) 8)))) t145 t148 true) = some r := by rw [if_neg (show ¬ (some q159).isNone = true by simp)] at H; exact H
       clear H
       have H := H1
       clear H1
       try simp only [errW_none, errW_some]
       have H' := Aside0.mk H
       clear H
       go_wp2
       go_meet
       case rel => exact ⟨_, (true), (by first | rfl | (simp; done) | (simp [*]; done)), H', ⟨by have := HJ2.out; first | omega | exact Nat.le_refl _⟩, ⟨by (with_reducible repeat (first | apply Kd.S_alloc | apply Kd.S_drewN | apply Kd.S_drew)); exact HO147.out⟩, ⟨by (with_reducible repeat (first | apply Kd.R_alloc | apply Kd.R_drewN | apply Kd.R_drew)); exact Kd.R_mono HO152.out (fun _ hk => trivial)⟩, ⟨by repeat (first | (with_reducible first | exact HB.out | apply below_alloc | apply pw_below_drewN | apply below_drew1) | exact HB.out)⟩⟩
     ·have H1 : (mandrellaw19_ScanTight.j1 kj2 l0 (wrap64 (1 + (wrap64 (Int.tmod (IntKind.u64.wrap (a1)) 8)))) t145 t148 true) = some r := by rw [if_neg (show ¬ (some q158).isNone = true by simp)] at H; exact H
      clear H
      have H := H1
      clear H1
      try simp only [errW_none, errW_some]
      have H' := Aside0.mk H
      clear H
      go_wp2
      go_meet
      case rel => exact ⟨_, (true), (by first | rfl | (simp; done) | (simp [*]; done)), H', ⟨by have := HJ2.out; first | omega | exact Nat.le_refl _⟩, ⟨by (with_reducible repeat (first | apply Kd.S_alloc | apply Kd.S_drewN | apply Kd.S_drew)); exact HO147.out⟩, ⟨by (with_reducible repeat (first | apply Kd.R_alloc | apply Kd.R_drewN | apply Kd.R_drew)); exact Kd.R_mono HO152.out (fun _ hk => trivial)⟩, ⟨by repeat (first | (with_reducible first | exact HB.out | apply below_alloc | apply pw_below_drewN | apply below_drew1) | exact HB.out)⟩⟩
    case rest =>
     clear HC14
     (try clear c1); (try clear q1); (try clear p2); (try clear c4); (try clear c5); (try clear c6); (try clear p6); (try clear c8); (try clear c9); (try clear c11); (try clear q15); (try clear p2); (try clear q158); (try clear q159)
     obtain ⟨kq, x63_13, rfl, HA, HJ13, HO_6, HO_7, HB⟩ := hcut
     cases kq with
     | zero => exact absurd HA.out (by simp [mandrellaw19_ScanTight.j1])
     | succ kj13 =>
      have H := HA.out
      clear HA
      simp only [mandrellaw19_ScanTight.j1] at H
      by_cases c20 : x63_13 = true
      ·subst c20
       have H1 : (some false) = some r := by rw [if_pos rfl] at H; exact H
       clear H
       have H := H1
       clear H1
       obtain rfl := Option.some.inj H
       go_wp2
       go_ret
       exact ⟨by first | rfl | (simp [errW_none, errW_some] <;> rfl) | (simp [*, errW_none, errW_some] <;> rfl), by repeat (first | (with_reducible first | exact HB.out | apply below_alloc | apply pw_below_drewN | apply below_drew1) | exact HB.out)⟩
      ·replace c20 := Bool.eq_false_iff.mpr c20
       subst c20
       have H1 : (mandrellaw19_ScanTight.l0 kj13 l0 (wrap64 (1 + (wrap64 (Int.tmod (IntKind.u64.wrap (a1)) 8)))) t145 t148 0) = some r := by rw [if_neg (show ¬ (false = true) by decide)] at H; exact H
       clear H
       have H := H1
       clear H1
       have H' := Aside0.mk H
       clear H
       go_wp2
       go_loopg [13] kj13 (fun kq v13 w' => ∃ (x13_3 : Int), v13 = .int .i64 x13_3 ∧ Aside0 (mandrellaw19_ScanTight.l0 kq l0 (wrap64 (1 + (wrap64 (Int.tmod (IntKind.u64.wrap (a1)) 8)))) t145 t148 x13_3 = some r) ∧ Aside0 (kq ≤ kj13) ∧ Aside0 (Kd.S k28 28 w' w.heap.size (fun _ => True) (.slice Ao16 t145.length co16) t145) ∧ Aside0 (Kd.R (Kd.int .i64) 3 w' w.heap.size (fun _ => True) v151 t148) ∧ Aside0 (Below w.heap.size w w'))
       case atStart => exact ⟨(0), (by first | rfl | (simp; done) | (simp [*]; done)), H', ⟨Nat.le_refl _⟩, ⟨by (with_reducible repeat (first | apply Kd.S_alloc | apply Kd.S_drewN | apply Kd.S_drew)); exact HO_6.out⟩, ⟨by (with_reducible repeat (first | apply Kd.R_alloc | apply Kd.R_drewN | apply Kd.R_drew)); exact HO_7.out⟩, ⟨by repeat (first | (with_reducible first | exact HB.out | apply below_alloc | apply pw_below_drewN | apply below_drew1) | exact HB.out)⟩⟩
       case round =>
        clear H'
        (try clear c1); (try clear q1); (try clear c2); (try clear p2); (try clear c4); (try clear c5); (try clear c6); (try clear p6); (try clear c8); (try clear c9); (try clear c11); (try clear q15); (try clear c20); (try clear p2); (try clear p6); (try clear q1); (try clear q15); (try clear q158); (try clear q159)
        obtain ⟨x13_3, rfl, HA, HK3, HO_6, HO_7, HB⟩ := hrel
        cases gk with
        | zero => exact absurd HA.out (by simp [mandrellaw19_ScanTight.l0])
        | succ k3 =>
         have H := HA.out
         clear HA
         simp only [mandrellaw19_ScanTight.l0] at H
         by_cases c21 : x13_3 < (t148.length : Int)
         ·rw [if_pos c21] at H
          have c21b0 : decide (x13_3 < (t148.length : Int)) = true := decide_eq_true c21
          clear c21
          by_cases c22 : 0 ≤ x13_3
          ·rw [if_pos c22] at H
           have c22b0 : decide (0 ≤ x13_3) = true := decide_eq_true c22
           clear c22
           by_cases c23 : (rd t148 x13_3) < 256
           ·rw [if_pos c23] at H
            have c23b0 : decide ((rd t148 x13_3) < 256) = true := decide_eq_true c23
            clear c23
            have H' := Aside0.mk H
            clear H
            obtain ⟨Ao24, co24, eo24⟩ := Kd.R_slice HO_7.out
            subst eo24
            have p160 : 0 ≤ (x13_3 : Int) := of_decide_eq_true (by first | (with_reducible assumption) | assumption)
            have q160 : x13_3 < (t148.length : Int) := of_decide_eq_true (by first | (with_reducible assumption) | assumption)
            obtain ⟨ad160, e160, hx160_0⟩ := Kd.at_int (Kd.R_reads' HO_7.out).2.2 x13_3 p160 q160
            cases e160
            replace p160 := eq_true p160
            replace q160 := eq_true q160
            go_wp2
            go_roundg k3
            case measure => have := HJ2.out; have := HJ13.out; have := HK3.out; omega
            case rel => exact ⟨(wrap64 (x13_3 + 1)), (by first | rfl | (simp; done) | (simp [*]; done)), H', ⟨by have := HJ2.out; have := HJ13.out; have := HK3.out; omega⟩, ⟨by (with_reducible repeat (first | apply Kd.S_alloc | apply Kd.S_drewN | apply Kd.S_drew)); exact HO_6.out⟩, ⟨by (with_reducible repeat (first | apply Kd.R_alloc | apply Kd.R_drewN | apply Kd.R_drew)); exact HO_7.out⟩, ⟨by repeat (first | (with_reducible first | exact HB.out | apply below_alloc | apply pw_below_drewN | apply below_drew1) | exact HB.out)⟩⟩
           ·rw [if_neg c23] at H
            have c23b0 : decide ((rd t148 x13_3) < 256) = false := decide_eq_false c23
            clear c23
            have H' := Aside0.mk H
            clear H
            obtain ⟨Ao25, co25, eo25⟩ := Kd.R_slice HO_7.out
            subst eo25
            have p160 : 0 ≤ (x13_3 : Int) := of_decide_eq_true (by first | (with_reducible assumption) | assumption)
            have q160 : x13_3 < (t148.length : Int) := of_decide_eq_true (by first | (with_reducible assumption) | assumption)
            obtain ⟨ad160, e160, hx160_0⟩ := Kd.at_int (Kd.R_reads' HO_7.out).2.2 x13_3 p160 q160
            cases e160
            replace p160 := eq_true p160
            replace q160 := eq_true q160
            go_wp2
            go_loopg [14] k3 (fun kq v14 w' => ∃ (x14_4 : Int), v14 = .int .i64 x14_4 ∧ Aside0 (mandrellaw19_ScanTight.l1 kq l0 (wrap64 (1 + (wrap64 (Int.tmod (IntKind.u64.wrap (a1)) 8)))) t145 t148 x13_3 x14_4 = some r) ∧ Aside0 (kq ≤ k3) ∧ Aside0 (Kd.S k28 28 w' w.heap.size (fun _ => True) (.slice Ao16 t145.length co16) t145) ∧ Aside0 (Kd.R (Kd.int .i64) 3 w' w.heap.size (fun _ => True) (.slice (some ad160) t148.length co25) t148) ∧ Aside0 (Below w.heap.size w w'))
            case atStart => exact ⟨(0), (by first | rfl | (simp; done) | (simp [*]; done)), H', ⟨Nat.le_refl _⟩, ⟨by (with_reducible repeat (first | apply Kd.S_alloc | apply Kd.S_drewN | apply Kd.S_drew)); exact HO_6.out⟩, ⟨by (with_reducible repeat (first | apply Kd.R_alloc | apply Kd.R_drewN | apply Kd.R_drew)); exact HO_7.out⟩, ⟨by repeat (first | (with_reducible first | exact HB.out | apply below_alloc | apply pw_below_drewN | apply below_drew1) | exact HB.out)⟩⟩
            case round =>
             clear H'
             (try clear c1); (try clear p1); (try clear q1); (try clear hx1); (try clear c2); (try clear p2); (try clear c4); (try clear c5); (try clear c6); (try clear p6); (try clear c8); (try clear c9); (try clear c11); (try clear q15); (try clear p16); (try clear q16); (try clear hx16); (try clear c20); (try clear c21); (try clear c21b0); (try clear c22); (try clear c22b0); (try clear c23); (try clear c23b0); (try clear hx160_0); (try clear p160); (try clear p2); (try clear p6); (try clear q1); (try clear q15); (try clear q158); (try clear q159); (try clear q160)
             obtain ⟨x14_4, rfl, HA, HK4, HO_6, HO_7, HB⟩ := hrel
             cases gk with
             | zero => exact absurd HA.out (by simp [mandrellaw19_ScanTight.l1])
             | succ k4 =>
              have H := HA.out
              clear HA
              simp only [mandrellaw19_ScanTight.l1] at H
              by_cases c26 : x14_4 < (wrap64 (1 + (wrap64 (Int.tmod (IntKind.u64.wrap (a1)) 8))))
              ·rw [if_pos c26] at H
               have c26b0 : decide (x14_4 < (wrap64 (1 + (wrap64 (Int.tmod (IntKind.u64.wrap (a1)) 8))))) = true := decide_eq_true c26
               clear c26
               have H' := Aside0.mk H
               clear H
               go_wp2
               go_loopg [15, 16] k4 (fun kq v15 v16 w' => ∃ (x15_5 : Bool) (x16_5 : Int), v15 = .bool x15_5 ∧ v16 = .int .i64 x16_5 ∧ Aside0 (mandrellaw19_ScanTight.l2 kq l0 (wrap64 (1 + (wrap64 (Int.tmod (IntKind.u64.wrap (a1)) 8)))) t145 t148 x13_3 x14_4 x15_5 x16_5 = some r) ∧ Aside0 (kq ≤ k4) ∧ Aside0 (Kd.S k28 28 w' w.heap.size (fun _ => True) (.slice Ao16 t145.length co16) t145) ∧ Aside0 (Kd.R (Kd.int .i64) 3 w' w.heap.size (fun _ => True) (.slice (some ad160) t148.length co25) t148) ∧ Aside0 (Below w.heap.size w w'))
               case atStart => exact ⟨(false), (0), (by first | rfl | (simp; done) | (simp [*]; done)), (by first | rfl | (simp; done) | (simp [*]; done)), H', ⟨Nat.le_refl _⟩, ⟨by (with_reducible repeat (first | apply Kd.S_alloc | apply Kd.S_drewN | apply Kd.S_drew)); exact HO_6.out⟩, ⟨by (with_reducible repeat (first | apply Kd.R_alloc | apply Kd.R_drewN | apply Kd.R_drew)); exact HO_7.out⟩, ⟨by repeat (first | (with_reducible first | exact HB.out | apply below_alloc | apply pw_below_drewN | apply below_drew1) | exact HB.out)⟩⟩
               case round =>
                clear H'
                (try clear c1); (try clear p1); (try clear q1); (try clear hx1); (try clear c2); (try clear p2); (try clear c4); (try clear c5); (try clear c6); (try clear p6); (try clear c8); (try clear c9); (try clear c11); (try clear q15); (try clear p16); (try clear q16); (try clear hx16); (try clear c20); (try clear c21); (try clear c21b0); (try clear c22); (try clear c22b0); (try clear c23); (try clear c23b0); (try clear c26); (try clear c26b0); (try clear hx160_0); (try clear p1); (try clear p16); (try clear p160); (try clear p2); (try clear p6); (try clear q1); (try clear q15); (try clear q158); (try clear q159); (try clear q16); (try clear q160)
                obtain ⟨x15_5, x16_5, rfl, rfl, HA, HK5, HO_6, HO_7, HB⟩ := hrel
                cases gk with
                | zero => exact absurd HA.out (by simp [mandrellaw19_ScanTight.l2])
                | succ k5 =>
                 have H := HA.out
                 clear HA
                 simp only [mandrellaw19_ScanTight.l2] at H
                 by_cases c27 : x16_5 < (t148.length : Int)
                 ·rw [if_pos c27] at H
                  have c27b0 : decide (x16_5 < (t148.length : Int)) = true := decide_eq_true c27
                  clear c27
                  by_cases c28 : x15_5 = true
                  ·subst c28
                   have H1 : (mandrellaw19_ScanTight.l2 k5 l0 (wrap64 (1 + (wrap64 (Int.tmod (IntKind.u64.wrap (a1)) 8)))) t145 t148 x13_3 x14_4 true (wrap64 (x16_5 + 1))) = some r := by rw [if_pos rfl] at H; exact H
                   clear H
                   have H := H1
                   clear H1
                   have H' := Aside0.mk H
                   clear H
                   try go_wp2
                   have n0_ := Aside0.mk (Kd.S_drew HO_6.out)
                   have n1_ := Aside0.mk (Kd.R_drew HO_7.out)
                   have n2_ := Aside0.mk (below_drew1 HB.out)
                   clear HO_6
                   clear HO_7
                   clear HB
                   have HO_6 := n0_
                   have HO_7 := n1_
                   have HB := n2_
                   clear n0_ n1_ n2_
                   refine start_ (n := 21) (S := fun w' => True) (ds := []) #[false, false, false, false, false, false, false, false, false, false, false, false, false, false, false, false, false, false, false, false, false] (by kernel_rfl) rfl rfl trivial (fun hHeld => ?_); refine with_tabW mandrellaw19_ScanTight.tab20 mandrellaw19_ScanTight.bits20 (fun HT_ HW_ => ?_)
                   generalize wr.drew = w29 at HO_6 HO_7 HB hHeld ⊢
                   refine pure_ (i := 0) (N := some 86) (v := ?_) (a' := ?_) #[true, false, false, false, false, false, false, false, false, false, false, false, false, false, false, false, false, false, false, false, false] rfl rfl (any_of HT_.out (by kernel_rfl)) (fun _ _ _ h => h) (Or.inl ⟨by rfl, ?_⟩) ?_ ?_
                   rotate_left
                   ·intro w'
                    go_simp
                    with_reducible rfl
                   rotate_left
                   ·simp only [Act.put, List.setIfInBounds_toArray, List.set_cons_zero, List.set_cons_succ, i64_w, i32_w]
                    rfl
                   refine pure_ (i := 1) (N := some 87) (v := ?_) (a' := ?_) #[true, true, false, false, false, false, false, false, false, false, false, false, false, false, false, false, false, false, false, false, false] rfl rfl (any_of HT_.out (by kernel_rfl)) (fun _ _ _ h => h) (Or.inl ⟨by rfl, ?_⟩) ?_ ?_
                   rotate_left
                   ·intro w'
                    go_simp
                    with_reducible rfl
                   rotate_left
                   ·simp only [Act.put, List.setIfInBounds_toArray, List.set_cons_zero, List.set_cons_succ, i64_w, i32_w]
                    rfl
                   refine pure_ (i := 2) (N := some 88) (v := undef) (a' := ?_) #[true, true, true, false, false, false, false, false, false, false, false, false, false, false, false, false, false, false, false, false, false] rfl rfl (any_of HT_.out (by kernel_rfl)) (fun _ _ _ h => h) (Or.inr ⟨by rfl, rfl⟩) ?_ ?_
                   rotate_left
                   ·simp only [Act.put, List.setIfInBounds_toArray, List.set_cons_zero, List.set_cons_succ, i64_w, i32_w]
                    rfl
                   refine pure_ (i := 3) (N := some 89) (v := undef) (a' := ?_) #[true, true, true, true, false, false, false, false, false, false, false, false, false, false, false, false, false, false, false, false, false] rfl rfl (any_of HT_.out (by kernel_rfl)) (fun _ _ _ h => h) (Or.inr ⟨by rfl, rfl⟩) ?_ ?_
                   rotate_left
                   ·simp only [Act.put, List.setIfInBounds_toArray, List.set_cons_zero, List.set_cons_succ, i64_w, i32_w]
                    rfl
                   refine pure_ (i := 4) (N := some 90) (v := undef) (a' := ?_) #[true, true, true, true, true, false, false, false, false, false, false, false, false, false, false, false, false, false, false, false, false] rfl rfl (any_of HT_.out (by kernel_rfl)) (fun _ _ _ h => h) (Or.inr ⟨by rfl, rfl⟩) ?_ ?_
                   rotate_left
                   ·simp only [Act.put, List.setIfInBounds_toArray, List.set_cons_zero, List.set_cons_succ, i64_w, i32_w]
                    rfl
                   refine pure_ (i := 5) (N := some 91) (v := undef) (a' := ?_) #[true, true, true, true, true, true, false, false, false, false, false, false, false, false, false, false, false, false, false, false, false] rfl rfl (any_of HT_.out (by kernel_rfl)) (fun _ _ _ h => h) (Or.inr ⟨by rfl, rfl⟩) ?_ ?_
                   rotate_left
                   ·simp only [Act.put, List.setIfInBounds_toArray, List.set_cons_zero, List.set_cons_succ, i64_w, i32_w]
                    rfl
                   refine pure_ (i := 6) (N := some 92) (v := undef) (a' := ?_) #[true, true, true, true, true, true, true, false, false, false, false, false, false, false, false, false, false, false, false, false, false] rfl rfl (any_of HT_.out (by kernel_rfl)) (fun _ _ _ h => h) (Or.inr ⟨by rfl, rfl⟩) ?_ ?_
                   rotate_left
                   ·simp only [Act.put, List.setIfInBounds_toArray, List.set_cons_zero, List.set_cons_succ, i64_w, i32_w]
                    rfl
                   refine pure_ (i := 7) (N := some 93) (v := undef) (a' := ?_) #[true, true, true, true, true, true, true, true, false, false, false, false, false, false, false, false, false, false, false, false, false] rfl rfl (any_of HT_.out (by kernel_rfl)) (fun _ _ _ h => h) (Or.inr ⟨by rfl, rfl⟩) ?_ ?_
                   rotate_left
                   ·simp only [Act.put, List.setIfInBounds_toArray, List.set_cons_zero, List.set_cons_succ, i64_w, i32_w]
                    rfl
                   refine pure_ (i := 8) (N := some 94) (v := undef) (a' := ?_) #[true, true, true, true, true, true, true, true, true, false, false, false, false, false, false, false, false, false, false, false, false] rfl rfl (any_of HT_.out (by kernel_rfl)) (fun _ _ _ h => h) (Or.inr ⟨by rfl, rfl⟩) ?_ ?_
                   rotate_left
                   ·simp only [Act.put, List.setIfInBounds_toArray, List.set_cons_zero, List.set_cons_succ, i64_w, i32_w]
                    rfl
                   refine pure_ (i := 9) (N := some 95) (v := undef) (a' := ?_) #[true, true, true, true, true, true, true, true, true, true, false, false, false, false, false, false, false, false, false, false, false] rfl rfl (any_of HT_.out (by kernel_rfl)) (fun _ _ _ h => h) (Or.inr ⟨by rfl, rfl⟩) ?_ ?_
                   rotate_left
                   ·simp only [Act.put, List.setIfInBounds_toArray, List.set_cons_zero, List.set_cons_succ, i64_w, i32_w]
                    rfl
                   refine pure_ (i := 10) (N := some 96) (v := undef) (a' := ?_) #[true, true, true, true, true, true, true, true, true, true, true, false, false, false, false, false, false, false, false, false, false] rfl rfl (any_of HT_.out (by kernel_rfl)) (fun _ _ _ h => h) (Or.inr ⟨by rfl, rfl⟩) ?_ ?_
                   rotate_left
                   ·simp only [Act.put, List.setIfInBounds_toArray, List.set_cons_zero, List.set_cons_succ, i64_w, i32_w]
                    rfl
                   refine pure_ (i := 11) (N := some 97) (v := undef) (a' := ?_) #[true, true, true, true, true, true, true, true, true, true, true, true, false, false, false, false, false, false, false, false, false] rfl rfl (any_of HT_.out (by kernel_rfl)) (fun _ _ _ h => h) (Or.inr ⟨by rfl, rfl⟩) ?_ ?_
                   rotate_left
                   ·simp only [Act.put, List.setIfInBounds_toArray, List.set_cons_zero, List.set_cons_succ, i64_w, i32_w]
                    rfl
                   refine pure_ (i := 12) (N := some 98) (v := undef) (a' := ?_) #[true, true, true, true, true, true, true, true, true, true, true, true, true, false, false, false, false, false, false, false, false] rfl rfl (any_of HT_.out (by kernel_rfl)) (fun _ _ _ h => h) (Or.inr ⟨by rfl, rfl⟩) ?_ ?_
                   rotate_left
                   ·simp only [Act.put, List.setIfInBounds_toArray, List.set_cons_zero, List.set_cons_succ, i64_w, i32_w]
                    rfl
                   refine pure_ (i := 13) (N := some 99) (v := undef) (a' := ?_) #[true, true, true, true, true, true, true, true, true, true, true, true, true, true, false, false, false, false, false, false, false] rfl rfl (any_of HT_.out (by kernel_rfl)) (fun _ _ _ h => h) (Or.inr ⟨by rfl, rfl⟩) ?_ ?_
                   rotate_left
                   ·simp only [Act.put, List.setIfInBounds_toArray, List.set_cons_zero, List.set_cons_succ, i64_w, i32_w]
                    rfl
                   refine pure_ (i := 14) (N := some 100) (v := undef) (a' := ?_) #[true, true, true, true, true, true, true, true, true, true, true, true, true, true, true, false, false, false, false, false, false] rfl rfl (any_of HT_.out (by kernel_rfl)) (fun _ _ _ h => h) (Or.inr ⟨by rfl, rfl⟩) ?_ ?_
                   rotate_left
                   ·simp only [Act.put, List.setIfInBounds_toArray, List.set_cons_zero, List.set_cons_succ, i64_w, i32_w]
                    rfl
                   refine pure_ (i := 15) (N := some 101) (v := undef) (a' := ?_) #[true, true, true, true, true, true, true, true, true, true, true, true, true, true, true, true, false, false, false, false, false] rfl rfl (any_of HT_.out (by kernel_rfl)) (fun _ _ _ h => h) (Or.inr ⟨by rfl, rfl⟩) ?_ ?_
                   rotate_left
                   ·simp only [Act.put, List.setIfInBounds_toArray, List.set_cons_zero, List.set_cons_succ, i64_w, i32_w]
                    rfl
                   refine pure_ (i := 16) (N := some 102) (v := undef) (a' := ?_) #[true, true, true, true, true, true, true, true, true, true, true, true, true, true, true, true, true, false, false, false, false] rfl rfl (any_of HT_.out (by kernel_rfl)) (fun _ _ _ h => h) (Or.inr ⟨by rfl, rfl⟩) ?_ ?_
                   rotate_left
                   ·simp only [Act.put, List.setIfInBounds_toArray, List.set_cons_zero, List.set_cons_succ, i64_w, i32_w]
                    rfl
                   refine pure_ (i := 17) (N := some 103) (v := undef) (a' := ?_) #[true, true, true, true, true, true, true, true, true, true, true, true, true, true, true, true, true, true, false, false, false] rfl rfl (any_of HT_.out (by kernel_rfl)) (fun _ _ _ h => h) (Or.inr ⟨by rfl, rfl⟩) ?_ ?_
                   rotate_left
                   ·simp only [Act.put, List.setIfInBounds_toArray, List.set_cons_zero, List.set_cons_succ, i64_w, i32_w]
                    rfl
                   refine pure_ (i := 18) (N := some 104) (v := undef) (a' := ?_) #[true, true, true, true, true, true, true, true, true, true, true, true, true, true, true, true, true, true, true, false, false] rfl rfl (any_of HT_.out (by kernel_rfl)) (fun _ _ _ h => h) (Or.inr ⟨by rfl, rfl⟩) ?_ ?_
                   rotate_left
                   ·simp only [Act.put, List.setIfInBounds_toArray, List.set_cons_zero, List.set_cons_succ, i64_w, i32_w]
                    rfl
                   refine pure_ (i := 19) (N := some 105) (v := ?_) (a' := ?_) #[true, true, true, true, true, true, true, true, true, true, true, true, true, true, true, true, true, true, true, true, false] rfl rfl (any_of HT_.out (by kernel_rfl)) (fun _ _ _ h => h) (Or.inl ⟨by rfl, ?_⟩) ?_ ?_
                   rotate_left
                   ·intro w'
                    go_simp
                    with_reducible rfl
                   rotate_left
                   ·simp only [Act.put, List.setIfInBounds_toArray, List.set_cons_zero, List.set_cons_succ, i64_w, i32_w]
                    rfl
                   refine pure_ (i := 20) (N := some 15) (v := ?_) (a' := ?_) #[true, true, true, true, true, true, true, true, true, true, true, true, true, true, true, true, true, true, true, true, true] rfl rfl (any_of HT_.out (by kernel_rfl)) (fun _ _ _ h => h) (Or.inl ⟨by rfl, ?_⟩) ?_ ?_
                   rotate_left
                   ·intro w'
                    go_simp
                    with_reducible rfl
                   rotate_left
                   ·simp only [Act.put, List.setIfInBounds_toArray, List.set_cons_zero, List.set_cons_succ, i64_w, i32_w]
                    rfl
                   refine done_ (done_of HT_.out (by kernel_rfl)) ?_
                   try go_wp2
                   go_roundg k5
                   case measure => have := HJ2.out; have := HJ13.out; have := HK3.out; have := HK4.out; have := HK5.out; omega
                   case rel => exact ⟨(true), (wrap64 (x16_5 + 1)), (by first | rfl | (simp; done) | (simp [*]; done)), (by first | rfl | (simp; done) | (simp [*]; done)), H', ⟨by have := HJ2.out; have := HJ13.out; have := HK3.out; have := HK4.out; have := HK5.out; omega⟩, ⟨by (with_reducible repeat (first | apply Kd.S_alloc | apply Kd.S_drewN | apply Kd.S_drew)); exact HO_6.out⟩, ⟨by (with_reducible repeat (first | apply Kd.R_alloc | apply Kd.R_drewN | apply Kd.R_drew)); exact HO_7.out⟩, ⟨by repeat (first | (with_reducible first | exact HB.out | apply below_alloc | apply pw_below_drewN | apply below_drew1) | exact HB.out)⟩⟩
                  ·replace c28 := Bool.eq_false_iff.mpr c28
                   subst c28
                   have H1 : (if 0 ≤ x16_5 then (if (rd t148 x16_5) = x14_4 then (if 0 ≤ x13_3 then (if x13_3 < (t145.length : Int) then (if x16_5 < (t145.length : Int) then ((span_Meet.f k5 ((rd_T28 t145 x13_3).f0) ((rd_T28 t145 x13_3).f1) ((rd_T28 t145 x16_5).f0) ((rd_T28 t145 x16_5).f1)).bind fun t164 => (mandrellaw19_ScanTight.l2 k5 l0 (wrap64 (1 + (wrap64 (Int.tmod (IntKind.u64.wrap (a1)) 8)))) t145 t148 x13_3 x14_4 t164 (wrap64 (x16_5 + 1)))) else (none)) else (none)) else (none)) else (mandrellaw19_ScanTight.l2 k5 l0 (wrap64 (1 + (wrap64 (Int.tmod (IntKind.u64.wrap (a1)) 8)))) t145 t148 x13_3 x14_4 false (wrap64 (x16_5 + 1)))) else (none)) = some r := by rw [if_neg (show ¬ (false = true) by decide)] at H; exact H
                   clear H
                   have H := H1
                   clear H1
                   by_cases c30 : 0 ≤ x16_5
                   ·rw [if_pos c30] at H
                    have c30b0 : decide (0 ≤ x16_5) = true := decide_eq_true c30
                    clear c30
                    by_cases c31 : (rd t148 x16_5) = x14_4
                    ·rw [if_pos c31] at H
                     have c31b0 : ((rd t148 x16_5) == x14_4) = true := beq_iff_eq.mpr c31
                     have c31b1 : ((rd t148 x16_5) != x14_4) = false := bne_eq_false_iff_eq.mpr c31
                     clear c31
                     by_cases c32 : 0 ≤ x13_3
                     ·rw [if_pos c32] at H
                      have c32b0 : decide (0 ≤ x13_3) = true := decide_eq_true c32
                      clear c32
                      by_cases c33 : x13_3 < (t145.length : Int)
                      ·rw [if_pos c33] at H
                       have c33b0 : decide (x13_3 < (t145.length : Int)) = true := decide_eq_true c33
                       clear c33
                       by_cases c34 : x16_5 < (t145.length : Int)
                       ·rw [if_pos c34] at H
                        have c34b0 : decide (x16_5 < (t145.length : Int)) = true := decide_eq_true c34
                        clear c34
                        replace H := Option.bind_eq_some_iff.mp H
                        obtain ⟨t164, A350, H⟩ := H
                        replace H : (mandrellaw19_ScanTight.l2 k5 l0 (wrap64 (1 + (wrap64 (Int.tmod (IntKind.u64.wrap (a1)) 8)))) t145 t148 x13_3 x14_4 t164 (wrap64 (x16_5 + 1))) = some r := H
                        have A35 := Aside0.mk A350
                        clear A350
                        have H' := Aside0.mk H
                        clear H
                        try go_wp2
                        have n0_ := Aside0.mk (Kd.S_drew HO_6.out)
                        have n1_ := Aside0.mk (Kd.R_drew HO_7.out)
                        have n2_ := Aside0.mk (below_drew1 HB.out)
                        clear HO_6
                        clear HO_7
                        clear HB
                        have HO_6 := n0_
                        have HO_7 := n1_
                        have HB := n2_
                        clear n0_ n1_ n2_
                        have p161 : 0 ≤ (x16_5 : Int) := of_decide_eq_true (by first | (with_reducible assumption) | assumption)
                        have q161 : x16_5 < (t148.length : Int) := of_decide_eq_true (by first | (with_reducible assumption) | assumption)
                        obtain ⟨ad161, e161, hx161_0⟩ := Kd.at_int (Kd.R_reads' HO_7.out).2.2 x16_5 p161 q161
                        obtain rfl : ad160 = ad161 := (by injection e161)
                        replace p161 := eq_true p161
                        replace q161 := eq_true q161
                        have p162 : 0 ≤ (x13_3 : Int) := of_decide_eq_true (by first | (with_reducible assumption) | assumption)
                        have q162 : x13_3 < (t145.length : Int) := of_decide_eq_true (by first | (with_reducible assumption) | assumption)
                        obtain ⟨ad162, A162_0, c162_0, e162, hx162_0, hx162_1, hl162_0, hi162_0⟩ := at_T28 (Kd.S_reads' HO_6.out).2.2 x13_3 p162 q162
                        cases e162
                        obtain ⟨ce162, hce162, hMe162, hcc162⟩ := Kd.S_get HO_6.out z28 x13_3 p162 (by first | exact q162 | exact of_decide_eq_true (by first | (with_reducible assumption) | assumption) | (have e_ := (Kd.S_reads' HO_6.out).1; omega))
                        obtain ⟨ve162_0, rfl, ge162_0⟩ := k28_openM hMe162
                        have hv162_0 := hcc162 0 _ rfl
                        rw [Nat.add_zero] at hv162_0
                        replace hv162_0 := Option.some.inj (hv162_0.symm.trans hx162_0)
                        rw [hv162_0] at ge162_0
                        have HL162_0 := Aside0.mk (show Kd.R k25 25 _ _ _ _ ((rd_T28 t145 x13_3).f0) from ge162_0)
                        clear hv162_0 ge162_0
                        clear hcc162 hce162
                        have HR162_0 := Aside0.mk hi162_0
                        have HC162_0 := Aside0.mk hl162_0
                        clear hi162_0 hl162_0
                        replace p162 := eq_true p162
                        replace q162 := eq_true q162
                        have p163 : 0 ≤ (x16_5 : Int) := of_decide_eq_true (by first | (with_reducible assumption) | assumption)
                        have q163 : x16_5 < (t145.length : Int) := of_decide_eq_true (by first | (with_reducible assumption) | assumption)
                        obtain ⟨ad163, A163_0, c163_0, e163, hx163_0, hx163_1, hl163_0, hi163_0⟩ := at_T28 (Kd.S_reads' HO_6.out).2.2 x16_5 p163 q163
                        obtain rfl : ad162 = ad163 := (by injection e163)
                        obtain ⟨ce163, hce163, hMe163, hcc163⟩ := Kd.S_get HO_6.out z28 x16_5 p163 (by first | exact q163 | exact of_decide_eq_true (by first | (with_reducible assumption) | assumption) | (have e_ := (Kd.S_reads' HO_6.out).1; omega))
                        obtain ⟨ve163_0, rfl, ge163_0⟩ := k28_openM hMe163
                        have hv163_0 := hcc163 0 _ rfl
                        rw [Nat.add_zero] at hv163_0
                        replace hv163_0 := Option.some.inj (hv163_0.symm.trans hx163_0)
                        rw [hv163_0] at ge163_0
                        have HL163_0 := Aside0.mk (show Kd.R k25 25 _ _ _ _ ((rd_T28 t145 x16_5).f0) from ge163_0)
                        clear hv163_0 ge163_0
                        clear hcc163 hce163
                        have HR163_0 := Aside0.mk hi163_0
                        have HC163_0 := Aside0.mk hl163_0
                        clear hi163_0 hl163_0
                        replace p163 := eq_true p163
                        replace q163 := eq_true q163
                        refine start_ (n := 21) (S := fun w' => w'.cell? (ad160.add (x16_5).toNat) = some (.int .i64 (rd t148 x16_5)) ∧ w'.cell? (ad162.add ((x13_3).toNat * 2)) = some (.slice A162_0 ((rd_T28 t145 x13_3).f0).length c162_0) ∧ w'.cell? ⟨(ad162.add ((x13_3).toNat * 2)).block, (ad162.add ((x13_3).toNat * 2)).off + 1, none⟩ = some (.int .i64 ((rd_T28 t145 x13_3).f1)) ∧ w'.cell? (ad162.add ((x16_5).toNat * 2)) = some (.slice A163_0 ((rd_T28 t145 x16_5).f0).length c163_0) ∧ w'.cell? ⟨(ad162.add ((x16_5).toNat * 2)).block, (ad162.add ((x16_5).toNat * 2)).off + 1, none⟩ = some (.int .i64 ((rd_T28 t145 x16_5).f1))) (ds := []) #[false, false, false, false, false, false, false, false, false, false, false, false, false, false, false, false, false, false, false, false, false] (by kernel_rfl) rfl rfl ⟨hx161_0, hx162_0, hx162_1, hx163_0, hx163_1⟩ (fun hHeld => ?_); refine with_tabW mandrellaw19_ScanTight.tab20 mandrellaw19_ScanTight.bits20 (fun HT_ HW_ => ?_)
                        generalize wr.drew = w36 at HO_6 HO_7 HB HL162_0 HL163_0 HR162_0 HR163_0 hx161_0 hx162_0 hx162_1 hx163_0 hx163_1 hHeld ⊢
                        refine pure_ (i := 0) (N := some 86) (v := ?_) (a' := ?_) #[true, false, false, false, false, false, false, false, false, false, false, false, false, false, false, false, false, false, false, false, false] rfl rfl (any_of HT_.out (by kernel_rfl)) (fun _ _ _ h => h) (Or.inl ⟨by rfl, ?_⟩) ?_ ?_
                        rotate_left
                        ·intro w'
                         go_simp
                         with_reducible rfl
                        rotate_left
                        ·simp only [Act.put, List.setIfInBounds_toArray, List.set_cons_zero, List.set_cons_succ, i64_w, i32_w]
                         rfl
                        refine pure_ (i := 1) (N := some 87) (v := ?_) (a' := ?_) #[true, true, false, false, false, false, false, false, false, false, false, false, false, false, false, false, false, false, false, false, false] rfl rfl (any_of HT_.out (by kernel_rfl)) (fun _ _ _ h => h) (Or.inl ⟨by rfl, ?_⟩) ?_ ?_
                        rotate_left
                        ·intro w'
                         go_simp
                         with_reducible rfl
                        rotate_left
                        ·simp only [Act.put, List.setIfInBounds_toArray, List.set_cons_zero, List.set_cons_succ, i64_w, i32_w]
                         rfl
                        refine pure_ (i := 2) (N := some 88) (v := ?_) (a' := ?_) #[true, true, true, false, false, false, false, false, false, false, false, false, false, false, false, false, false, false, false, false, false] rfl rfl (any_of HT_.out (by kernel_rfl)) (fun _ _ _ h => h) (Or.inl ⟨by rfl, ?_⟩) ?_ ?_
                        rotate_left
                        ·intro w'
                         go_simp
                         with_reducible rfl
                        rotate_left
                        ·simp only [Act.put, List.setIfInBounds_toArray, List.set_cons_zero, List.set_cons_succ, i64_w, i32_w]
                         rfl
                        refine pure_ (i := 3) (N := some 89) (v := ?_) (a' := ?_) #[true, true, true, true, false, false, false, false, false, false, false, false, false, false, false, false, false, false, false, false, false] rfl rfl (any_of HT_.out (by kernel_rfl)) (fun _ _ _ h => h) (Or.inl ⟨by rfl, ?_⟩) ?_ ?_
                        rotate_left
                        ·intro w'
                         go_simp
                         with_reducible rfl
                        rotate_left
                        ·simp only [Act.put, List.setIfInBounds_toArray, List.set_cons_zero, List.set_cons_succ, i64_w, i32_w]
                         rfl
                        refine pure_ (i := 4) (N := some 90) (v := ?_) (a' := ?_) #[true, true, true, true, true, false, false, false, false, false, false, false, false, false, false, false, false, false, false, false, false] rfl rfl (any_of HT_.out (by kernel_rfl)) (fun _ _ _ h => h) (Or.inl ⟨by rfl, ?_⟩) ?_ ?_
                        rotate_left
                        ·intro w'
                         go_simp
                         with_reducible rfl
                        rotate_left
                        ·simp only [Act.put, List.setIfInBounds_toArray, List.set_cons_zero, List.set_cons_succ, i64_w, i32_w]
                         rfl
                        refine pure_ (i := 6) (N := some 92) (v := ?_) (a' := ?_) #[true, true, true, true, true, false, true, false, false, false, false, false, false, false, false, false, false, false, false, false, false] rfl rfl (any_of HT_.out (by kernel_rfl)) (fun _ _ _ h => h) (Or.inl ⟨by rfl, ?_⟩) ?_ ?_
                        rotate_left
                        ·intro w'
                         go_simp
                         with_reducible rfl
                        rotate_left
                        ·simp only [Act.put, List.setIfInBounds_toArray, List.set_cons_zero, List.set_cons_succ, i64_w, i32_w]
                         rfl
                        refine take_ (i := 5) (N := some 91) (v := ?_) (a' := ?_) #[true, true, true, true, true, true, true, false, false, false, false, false, false, false, false, false, false, false, false, false, false] rfl rfl (take_ofW HT_.out HW_.out (by kernel_rfl)) (fun _ _ _ h => h) (Or.inl ⟨by rfl, ?_⟩) hHeld ?_ ?_
                        rotate_left
                        ·rintro w' ⟨s0, s1, s2, s3, s4⟩
                         go_simp
                         with_reducible rfl
                        rotate_left
                        ·simp only [Act.put, List.setIfInBounds_toArray, List.set_cons_zero, List.set_cons_succ, i64_w, i32_w]
                         rfl
                        refine pure_ (i := 7) (N := some 93) (v := ?_) (a' := ?_) #[true, true, true, true, true, true, true, true, false, false, false, false, false, false, false, false, false, false, false, false, false] rfl rfl (any_of HT_.out (by kernel_rfl)) (fun _ _ _ h => h) (Or.inl ⟨by rfl, ?_⟩) ?_ ?_
                        rotate_left
                        ·intro w'
                         go_simp
                         with_reducible rfl
                        rotate_left
                        ·simp only [Act.put, List.setIfInBounds_toArray, List.set_cons_zero, List.set_cons_succ, i64_w, i32_w]
                         rfl
                        refine pure_ (i := 8) (N := some 94) (v := ?_) (a' := ?_) #[true, true, true, true, true, true, true, true, true, false, false, false, false, false, false, false, false, false, false, false, false] rfl rfl (any_of HT_.out (by kernel_rfl)) (fun _ _ _ h => h) (Or.inl ⟨by rfl, ?_⟩) ?_ ?_
                        rotate_left
                        ·intro w'
                         go_simp
                         with_reducible rfl
                        rotate_left
                        ·simp only [Act.put, List.setIfInBounds_toArray, List.set_cons_zero, List.set_cons_succ, i64_w, i32_w]
                         rfl
                        refine pure_ (i := 9) (N := some 95) (v := ?_) (a' := ?_) #[true, true, true, true, true, true, true, true, true, true, false, false, false, false, false, false, false, false, false, false, false] rfl rfl (any_of HT_.out (by kernel_rfl)) (fun _ _ _ h => h) (Or.inl ⟨by rfl, ?_⟩) ?_ ?_
                        rotate_left
                        ·intro w'
                         go_simp
                         with_reducible rfl
                        rotate_left
                        ·simp only [Act.put, List.setIfInBounds_toArray, List.set_cons_zero, List.set_cons_succ, i64_w, i32_w]
                         rfl
                        refine pure_ (i := 10) (N := some 96) (v := ?_) (a' := ?_) #[true, true, true, true, true, true, true, true, true, true, true, false, false, false, false, false, false, false, false, false, false] rfl rfl (any_of HT_.out (by kernel_rfl)) (fun _ _ _ h => h) (Or.inl ⟨by rfl, ?_⟩) ?_ ?_
                        rotate_left
                        ·intro w'
                         go_simp
                         with_reducible rfl
                        rotate_left
                        ·simp only [Act.put, List.setIfInBounds_toArray, List.set_cons_zero, List.set_cons_succ, i64_w, i32_w]
                         rfl
                        refine pure_ (i := 11) (N := some 97) (v := ?_) (a' := ?_) #[true, true, true, true, true, true, true, true, true, true, true, true, false, false, false, false, false, false, false, false, false] rfl rfl (any_of HT_.out (by kernel_rfl)) (fun _ _ _ h => h) (Or.inl ⟨by rfl, ?_⟩) ?_ ?_
                        rotate_left
                        ·intro w'
                         go_simp
                         with_reducible rfl
                        rotate_left
                        ·simp only [Act.put, List.setIfInBounds_toArray, List.set_cons_zero, List.set_cons_succ, i64_w, i32_w]
                         rfl
                        refine pure_ (i := 13) (N := some 99) (v := ?_) (a' := ?_) #[true, true, true, true, true, true, true, true, true, true, true, true, false, true, false, false, false, false, false, false, false] rfl rfl (any_of HT_.out (by kernel_rfl)) (fun _ _ _ h => h) (Or.inl ⟨by rfl, ?_⟩) ?_ ?_
                        rotate_left
                        ·intro w'
                         go_simp
                         with_reducible rfl
                        rotate_left
                        ·simp only [Act.put, List.setIfInBounds_toArray, List.set_cons_zero, List.set_cons_succ, i64_w, i32_w]
                         rfl
                        refine pure_ (i := 14) (N := some 100) (v := ?_) (a' := ?_) #[true, true, true, true, true, true, true, true, true, true, true, true, false, true, true, false, false, false, false, false, false] rfl rfl (any_of HT_.out (by kernel_rfl)) (fun _ _ _ h => h) (Or.inl ⟨by rfl, ?_⟩) ?_ ?_
                        rotate_left
                        ·intro w'
                         go_simp
                         with_reducible rfl
                        rotate_left
                        ·simp only [Act.put, List.setIfInBounds_toArray, List.set_cons_zero, List.set_cons_succ, i64_w, i32_w]
                         rfl
                        refine pure_ (i := 15) (N := some 101) (v := ?_) (a' := ?_) #[true, true, true, true, true, true, true, true, true, true, true, true, false, true, true, true, false, false, false, false, false] rfl rfl (any_of HT_.out (by kernel_rfl)) (fun _ _ _ h => h) (Or.inl ⟨by rfl, ?_⟩) ?_ ?_
                        rotate_left
                        ·intro w'
                         go_simp
                         with_reducible rfl
                        rotate_left
                        ·simp only [Act.put, List.setIfInBounds_toArray, List.set_cons_zero, List.set_cons_succ, i64_w, i32_w]
                         rfl
                        refine take_ (i := 12) (N := some 98) (v := ?_) (a' := ?_) #[true, true, true, true, true, true, true, true, true, true, true, true, true, true, true, true, false, false, false, false, false] rfl rfl (take_ofW HT_.out HW_.out (by kernel_rfl)) (fun _ _ _ h => h) (Or.inl ⟨by rfl, ?_⟩) hHeld ?_ ?_
                        rotate_left
                        ·rintro w' ⟨s0, s1, s2, s3, s4⟩
                         go_simp
                         with_reducible rfl
                        rotate_left
                        ·simp only [Act.put, List.setIfInBounds_toArray, List.set_cons_zero, List.set_cons_succ, i64_w, i32_w]
                         rfl
                        refine take_ (i := 16) (N := some 102) (v := ?_) (a' := ?_) #[true, true, true, true, true, true, true, true, true, true, true, true, true, true, true, true, true, false, false, false, false] rfl rfl (take_ofW HT_.out HW_.out (by kernel_rfl)) (fun _ _ _ h => h) (Or.inl ⟨by rfl, ?_⟩) hHeld ?_ ?_
                        rotate_left
                        ·rintro w' ⟨s0, s1, s2, s3, s4⟩
                         go_simp
                         with_reducible rfl
                        rotate_left
                        ·simp only [Act.put, List.setIfInBounds_toArray, List.set_cons_zero, List.set_cons_succ, i64_w, i32_w]
                         rfl
                        refine one_ (i := 17) (N := some 103) #[true, true, true, true, true, true, true, true, true, true, true, true, true, true, true, true, true, true, false, false, false] rfl rfl (one_of HT_.out (by kernel_rfl)) (by decide) (fun K hK => ?_)
                        refine goes_ Try.func12 (by kernel_rfl) rfl #[.agg #[.slice A162_0 ((rd_T28 t145 x13_3).f0).length c162_0, .int .i64 ((rd_T28 t145 x13_3).f1)], .agg #[.slice A163_0 ((rd_T28 t145 x16_5).f0).length c163_0, .int .i64 ((rd_T28 t145 x16_5).f1)]] (by rfl) rfl rfl (by (try simp only [List.map_toArray, List.map_cons, List.map_nil]); first | done | rfl | (simp only [List.length_drop, List.length_take]; rfl)) ?_
                        with_reducible refine (span_Meet.calls k5 _ _ ((rd_T28 t145 x13_3).f0) ((rd_T28 t145 x13_3).f1) _ _ ((rd_T28 t145 x16_5).f0) ((rd_T28 t145 x16_5).f1) t164 _ ?side1 ?side2 ?side3 ?side4 A35.out).mono ?_
                        (case side1 => repeat (first | exact (by repeat (first | (with_reducible exact HR162_0.out) | (with_reducible refine Kd.C_alloc ?_ _) | (with_reducible refine Kd.C_drewN ?_ _) | (with_reducible refine Kd.C_drew ?_) | exact HR162_0.out)) | (with_reducible refine Kd.C_alloc ?_ _) | (with_reducible refine Kd.C_drewN ?_ _) | (with_reducible refine Kd.C_drew ?_)))
                        (case side2 => exact HC162_0.out)
                        (case side3 => repeat (first | exact (by repeat (first | (with_reducible exact HR163_0.out) | (with_reducible refine Kd.C_alloc ?_ _) | (with_reducible refine Kd.C_drewN ?_ _) | (with_reducible refine Kd.C_drew ?_) | exact HR163_0.out)) | (with_reducible refine Kd.C_alloc ?_ _) | (with_reducible refine Kd.C_drewN ?_ _) | (with_reducible refine Kd.C_drew ?_)))
                        (case side4 => exact HC163_0.out)
                        rintro e w37 ⟨rfl, hb⟩
                        have HS0_ := (hb.cell (World.block_lt_of_cell? _ _ (hHeld.1))).trans (hHeld.1)
                        have HS1_ := (hb.cell (World.block_lt_of_cell? _ _ (hHeld.2.1))).trans (hHeld.2.1)
                        have HS2_ := (hb.cell (World.block_lt_of_cell? _ _ (hHeld.2.2.1))).trans (hHeld.2.2.1)
                        have HS3_ := (hb.cell (World.block_lt_of_cell? _ _ (hHeld.2.2.2.1))).trans (hHeld.2.2.2.1)
                        have HS4_ := (hb.cell (World.block_lt_of_cell? _ _ (hHeld.2.2.2.2))).trans (hHeld.2.2.2.2)
                        refine ⟨_, rfl, ?_⟩
                        have n0_ := Aside0.mk (Kd.S_below (by (with_reducible repeat (first | apply Kd.S_alloc | apply Kd.S_drewN | apply Kd.S_drew)); exact HO_6.out) hb)
                        have n1_ := Aside0.mk (Kd.R_below (by (with_reducible repeat (first | apply Kd.R_alloc | apply Kd.R_drewN | apply Kd.R_drew)); exact HO_7.out) hb)
                        have n2_ := Aside0.mk (Kd.R_below (by (with_reducible repeat (first | apply Kd.R_alloc | apply Kd.R_drewN | apply Kd.R_drew)); exact HL162_0.out) hb)
                        have n3_ := Aside0.mk (Kd.R_below (by (with_reducible repeat (first | apply Kd.R_alloc | apply Kd.R_drewN | apply Kd.R_drew)); exact HL163_0.out) hb)
                        have n4_ := Aside0.mk (Kd.C_below (by repeat (first | (with_reducible exact HR162_0.out) | (with_reducible refine Kd.C_alloc ?_ _) | (with_reducible refine Kd.C_drewN ?_ _) | (with_reducible refine Kd.C_drew ?_) | exact HR162_0.out)) hb)
                        have n5_ := Aside0.mk (Kd.C_below (by repeat (first | (with_reducible exact HR163_0.out) | (with_reducible refine Kd.C_alloc ?_ _) | (with_reducible refine Kd.C_drewN ?_ _) | (with_reducible refine Kd.C_drew ?_) | exact HR163_0.out)) hb)
                        have n6_ := Aside0.mk (below_step (by repeat (first | (with_reducible first | exact HB.out | apply below_alloc | apply pw_below_drewN | apply below_drew1) | exact HB.out)) hb)
                        clear HO_6
                        clear HO_7
                        clear HL162_0
                        clear HL163_0
                        clear HR162_0
                        clear HR163_0
                        clear HB
                        have HO_6 := n0_
                        have HO_7 := n1_
                        have HL162_0 := n2_
                        have HL163_0 := n3_
                        have HR162_0 := n4_
                        have HR163_0 := n5_
                        have HB := n6_
                        clear n0_ n1_ n2_ n3_ n4_ n5_ n6_
                        (try clear hb)
                        (try clear hb2)
                        (try clear hk)
                        (try clear hi)
                        refine hK.out _ _ ⟨HS0_, HS1_, HS2_, HS3_, HS4_⟩ (fun hHeld => ?_)
                        clear hK K
                        refine norm_ (a' := ?_) ?_ ?_
                        rotate_left
                        ·show Act.put _ (some 103) _ = _
                         simp only [Act.put, List.setIfInBounds_toArray, List.set_cons_zero, List.set_cons_succ, i64_w, i32_w]
                         rfl
                        refine pure_ (i := 18) (N := some 104) (v := ?_) (a' := ?_) #[true, true, true, true, true, true, true, true, true, true, true, true, true, true, true, true, true, true, true, false, false] rfl rfl (any_of HT_.out (by kernel_rfl)) (fun _ _ _ h => h) (Or.inl ⟨by rfl, ?_⟩) ?_ ?_
                        rotate_left
                        ·intro w'
                         go_simp
                         with_reducible rfl
                        rotate_left
                        ·simp only [Act.put, List.setIfInBounds_toArray, List.set_cons_zero, List.set_cons_succ, i64_w, i32_w]
                         rfl
                        refine pure_ (i := 19) (N := some 105) (v := ?_) (a' := ?_) #[true, true, true, true, true, true, true, true, true, true, true, true, true, true, true, true, true, true, true, true, false] rfl rfl (any_of HT_.out (by kernel_rfl)) (fun _ _ _ h => h) (Or.inl ⟨by rfl, ?_⟩) ?_ ?_
                        rotate_left
                        ·intro w'
                         go_simp
                         with_reducible rfl
                        rotate_left
                        ·simp only [Act.put, List.setIfInBounds_toArray, List.set_cons_zero, List.set_cons_succ, i64_w, i32_w]
                         rfl
                        refine pure_ (i := 20) (N := some 15) (v := ?_) (a' := ?_) #[true, true, true, true, true, true, true, true, true, true, true, true, true, true, true, true, true, true, true, true, true] rfl rfl (any_of HT_.out (by kernel_rfl)) (fun _ _ _ h => h) (Or.inl ⟨by rfl, ?_⟩) ?_ ?_
                        rotate_left
                        ·intro w'
                         go_simp
                         with_reducible rfl
                        rotate_left
                        ·simp only [Act.put, List.setIfInBounds_toArray, List.set_cons_zero, List.set_cons_succ, i64_w, i32_w]
                         rfl
                        refine done_ (done_of HT_.out (by kernel_rfl)) ?_
                        try go_wp2
                        go_roundg k5
                        case measure => have := HJ2.out; have := HJ13.out; have := HK3.out; have := HK4.out; have := HK5.out; omega
                        case rel => exact ⟨(t164), (wrap64 (x16_5 + 1)), (by first | rfl | (simp; done) | (simp [*]; done)), (by first | rfl | (simp; done) | (simp [*]; done)), H', ⟨by have := HJ2.out; have := HJ13.out; have := HK3.out; have := HK4.out; have := HK5.out; omega⟩, ⟨by (with_reducible repeat (first | apply Kd.S_alloc | apply Kd.S_drewN | apply Kd.S_drew)); exact HO_6.out⟩, ⟨by (with_reducible repeat (first | apply Kd.R_alloc | apply Kd.R_drewN | apply Kd.R_drew)); exact HO_7.out⟩, ⟨by repeat (first | (with_reducible first | exact HB.out | apply below_alloc | apply pw_below_drewN | apply below_drew1) | exact HB.out)⟩⟩
                       ·rw [if_neg c34] at H
                        exact absurd H (by simp)
                      ·rw [if_neg c33] at H
                       exact absurd H (by simp)
                     ·rw [if_neg c32] at H
                      exact absurd H (by simp)
                    ·rw [if_neg c31] at H
                     have c31b0 : ((rd t148 x16_5) == x14_4) = false := beq_eq_false_iff_ne.mpr c31
                     have c31b1 : ((rd t148 x16_5) != x14_4) = true := bne_iff_ne.mpr c31
                     have H' := Aside0.mk H
                     clear H
                     try go_wp2
                     have n0_ := Aside0.mk (Kd.S_drew HO_6.out)
                     have n1_ := Aside0.mk (Kd.R_drew HO_7.out)
                     have n2_ := Aside0.mk (below_drew1 HB.out)
                     clear HO_6
                     clear HO_7
                     clear HB
                     have HO_6 := n0_
                     have HO_7 := n1_
                     have HB := n2_
                     clear n0_ n1_ n2_
                     have p161 : 0 ≤ (x16_5 : Int) := of_decide_eq_true (by first | (with_reducible assumption) | assumption)
                     have q161 : x16_5 < (t148.length : Int) := of_decide_eq_true (by first | (with_reducible assumption) | assumption)
                     obtain ⟨ad161, e161, hx161_0⟩ := Kd.at_int (Kd.R_reads' HO_7.out).2.2 x16_5 p161 q161
                     obtain rfl : ad160 = ad161 := (by injection e161)
                     replace p161 := eq_true p161
                     replace q161 := eq_true q161
                     refine start_ (n := 21) (S := fun w' => w'.cell? (ad160.add (x16_5).toNat) = some (.int .i64 (rd t148 x16_5))) (ds := []) #[false, false, false, false, false, false, false, false, false, false, false, false, false, false, false, false, false, false, false, false, false] (by kernel_rfl) rfl rfl (hx161_0) (fun hHeld => ?_); refine with_tabW mandrellaw19_ScanTight.tab20 mandrellaw19_ScanTight.bits20 (fun HT_ HW_ => ?_)
                     generalize wr.drew = w38 at HO_6 HO_7 HB hx161_0 hHeld ⊢
                     refine pure_ (i := 0) (N := some 86) (v := ?_) (a' := ?_) #[true, false, false, false, false, false, false, false, false, false, false, false, false, false, false, false, false, false, false, false, false] rfl rfl (any_of HT_.out (by kernel_rfl)) (fun _ _ _ h => h) (Or.inl ⟨by rfl, ?_⟩) ?_ ?_
                     rotate_left
                     ·intro w'
                      go_simp
                      with_reducible rfl
                     rotate_left
                     ·simp only [Act.put, List.setIfInBounds_toArray, List.set_cons_zero, List.set_cons_succ, i64_w, i32_w]
                      rfl
                     refine pure_ (i := 1) (N := some 87) (v := ?_) (a' := ?_) #[true, true, false, false, false, false, false, false, false, false, false, false, false, false, false, false, false, false, false, false, false] rfl rfl (any_of HT_.out (by kernel_rfl)) (fun _ _ _ h => h) (Or.inl ⟨by rfl, ?_⟩) ?_ ?_
                     rotate_left
                     ·intro w'
                      go_simp
                      with_reducible rfl
                     rotate_left
                     ·simp only [Act.put, List.setIfInBounds_toArray, List.set_cons_zero, List.set_cons_succ, i64_w, i32_w]
                      rfl
                     refine pure_ (i := 2) (N := some 88) (v := ?_) (a' := ?_) #[true, true, true, false, false, false, false, false, false, false, false, false, false, false, false, false, false, false, false, false, false] rfl rfl (any_of HT_.out (by kernel_rfl)) (fun _ _ _ h => h) (Or.inl ⟨by rfl, ?_⟩) ?_ ?_
                     rotate_left
                     ·intro w'
                      go_simp
                      with_reducible rfl
                     rotate_left
                     ·simp only [Act.put, List.setIfInBounds_toArray, List.set_cons_zero, List.set_cons_succ, i64_w, i32_w]
                      rfl
                     refine pure_ (i := 3) (N := some 89) (v := ?_) (a' := ?_) #[true, true, true, true, false, false, false, false, false, false, false, false, false, false, false, false, false, false, false, false, false] rfl rfl (any_of HT_.out (by kernel_rfl)) (fun _ _ _ h => h) (Or.inl ⟨by rfl, ?_⟩) ?_ ?_
                     rotate_left
                     ·intro w'
                      go_simp
                      with_reducible rfl
                     rotate_left
                     ·simp only [Act.put, List.setIfInBounds_toArray, List.set_cons_zero, List.set_cons_succ, i64_w, i32_w]
                      rfl
                     refine pure_ (i := 4) (N := some 90) (v := ?_) (a' := ?_) #[true, true, true, true, true, false, false, false, false, false, false, false, false, false, false, false, false, false, false, false, false] rfl rfl (any_of HT_.out (by kernel_rfl)) (fun _ _ _ h => h) (Or.inl ⟨by rfl, ?_⟩) ?_ ?_
                     rotate_left
                     ·intro w'
                      go_simp
                      with_reducible rfl
                     rotate_left
                     ·simp only [Act.put, List.setIfInBounds_toArray, List.set_cons_zero, List.set_cons_succ, i64_w, i32_w]
                      rfl
                     refine pure_ (i := 6) (N := some 92) (v := ?_) (a' := ?_) #[true, true, true, true, true, false, true, false, false, false, false, false, false, false, false, false, false, false, false, false, false] rfl rfl (any_of HT_.out (by kernel_rfl)) (fun _ _ _ h => h) (Or.inl ⟨by rfl, ?_⟩) ?_ ?_
                     rotate_left
                     ·intro w'
                      go_simp
                      with_reducible rfl
                     rotate_left
                     ·simp only [Act.put, List.setIfInBounds_toArray, List.set_cons_zero, List.set_cons_succ, i64_w, i32_w]
                      rfl
                     refine take_ (i := 5) (N := some 91) (v := ?_) (a' := ?_) #[true, true, true, true, true, true, true, false, false, false, false, false, false, false, false, false, false, false, false, false, false] rfl rfl (take_ofW HT_.out HW_.out (by kernel_rfl)) (fun _ _ _ h => h) (Or.inl ⟨by rfl, ?_⟩) hHeld ?_ ?_
                     rotate_left
                     ·intro w' s0
                      go_simp
                      with_reducible rfl
                     rotate_left
                     ·simp only [Act.put, List.setIfInBounds_toArray, List.set_cons_zero, List.set_cons_succ, i64_w, i32_w]
                      rfl
                     refine pure_ (i := 7) (N := some 93) (v := ?_) (a' := ?_) #[true, true, true, true, true, true, true, true, false, false, false, false, false, false, false, false, false, false, false, false, false] rfl rfl (any_of HT_.out (by kernel_rfl)) (fun _ _ _ h => h) (Or.inl ⟨by rfl, ?_⟩) ?_ ?_
                     rotate_left
                     ·intro w'
                      go_simp
                      with_reducible rfl
                     rotate_left
                     ·simp only [Act.put, List.setIfInBounds_toArray, List.set_cons_zero, List.set_cons_succ, i64_w, i32_w]
                      rfl
                     refine pure_ (i := 8) (N := some 94) (v := ?_) (a' := ?_) #[true, true, true, true, true, true, true, true, true, false, false, false, false, false, false, false, false, false, false, false, false] rfl rfl (any_of HT_.out (by kernel_rfl)) (fun _ _ _ h => h) (Or.inl ⟨by rfl, ?_⟩) ?_ ?_
                     rotate_left
                     ·intro w'
                      go_simp
                      with_reducible rfl
                     rotate_left
                     ·simp only [Act.put, List.setIfInBounds_toArray, List.set_cons_zero, List.set_cons_succ, i64_w, i32_w]
                      rfl
                     refine pure_ (i := 9) (N := some 95) (v := undef) (a' := ?_) #[true, true, true, true, true, true, true, true, true, true, false, false, false, false, false, false, false, false, false, false, false] rfl rfl (any_of HT_.out (by kernel_rfl)) (fun _ _ _ h => h) (Or.inr ⟨by rfl, rfl⟩) ?_ ?_
                     rotate_left
                     ·simp only [Act.put, List.setIfInBounds_toArray, List.set_cons_zero, List.set_cons_succ, i64_w, i32_w]
                      rfl
                     refine pure_ (i := 10) (N := some 96) (v := undef) (a' := ?_) #[true, true, true, true, true, true, true, true, true, true, true, false, false, false, false, false, false, false, false, false, false] rfl rfl (any_of HT_.out (by kernel_rfl)) (fun _ _ _ h => h) (Or.inr ⟨by rfl, rfl⟩) ?_ ?_
                     rotate_left
                     ·simp only [Act.put, List.setIfInBounds_toArray, List.set_cons_zero, List.set_cons_succ, i64_w, i32_w]
                      rfl
                     refine pure_ (i := 11) (N := some 97) (v := undef) (a' := ?_) #[true, true, true, true, true, true, true, true, true, true, true, true, false, false, false, false, false, false, false, false, false] rfl rfl (any_of HT_.out (by kernel_rfl)) (fun _ _ _ h => h) (Or.inr ⟨by rfl, rfl⟩) ?_ ?_
                     rotate_left
                     ·simp only [Act.put, List.setIfInBounds_toArray, List.set_cons_zero, List.set_cons_succ, i64_w, i32_w]
                      rfl
                     refine pure_ (i := 12) (N := some 98) (v := undef) (a' := ?_) #[true, true, true, true, true, true, true, true, true, true, true, true, true, false, false, false, false, false, false, false, false] rfl rfl (any_of HT_.out (by kernel_rfl)) (fun _ _ _ h => h) (Or.inr ⟨by rfl, rfl⟩) ?_ ?_
                     rotate_left
                     ·simp only [Act.put, List.setIfInBounds_toArray, List.set_cons_zero, List.set_cons_succ, i64_w, i32_w]
                      rfl
                     refine pure_ (i := 13) (N := some 99) (v := undef) (a' := ?_) #[true, true, true, true, true, true, true, true, true, true, true, true, true, true, false, false, false, false, false, false, false] rfl rfl (any_of HT_.out (by kernel_rfl)) (fun _ _ _ h => h) (Or.inr ⟨by rfl, rfl⟩) ?_ ?_
                     rotate_left
                     ·simp only [Act.put, List.setIfInBounds_toArray, List.set_cons_zero, List.set_cons_succ, i64_w, i32_w]
                      rfl
                     refine pure_ (i := 14) (N := some 100) (v := undef) (a' := ?_) #[true, true, true, true, true, true, true, true, true, true, true, true, true, true, true, false, false, false, false, false, false] rfl rfl (any_of HT_.out (by kernel_rfl)) (fun _ _ _ h => h) (Or.inr ⟨by rfl, rfl⟩) ?_ ?_
                     rotate_left
                     ·simp only [Act.put, List.setIfInBounds_toArray, List.set_cons_zero, List.set_cons_succ, i64_w, i32_w]
                      rfl
                     refine pure_ (i := 15) (N := some 101) (v := undef) (a' := ?_) #[true, true, true, true, true, true, true, true, true, true, true, true, true, true, true, true, false, false, false, false, false] rfl rfl (any_of HT_.out (by kernel_rfl)) (fun _ _ _ h => h) (Or.inr ⟨by rfl, rfl⟩) ?_ ?_
                     rotate_left
                     ·simp only [Act.put, List.setIfInBounds_toArray, List.set_cons_zero, List.set_cons_succ, i64_w, i32_w]
                      rfl
                     refine pure_ (i := 16) (N := some 102) (v := undef) (a' := ?_) #[true, true, true, true, true, true, true, true, true, true, true, true, true, true, true, true, true, false, false, false, false] rfl rfl (any_of HT_.out (by kernel_rfl)) (fun _ _ _ h => h) (Or.inr ⟨by rfl, rfl⟩) ?_ ?_
                     rotate_left
                     ·simp only [Act.put, List.setIfInBounds_toArray, List.set_cons_zero, List.set_cons_succ, i64_w, i32_w]
                      rfl
                     refine pure_ (i := 17) (N := some 103) (v := undef) (a' := ?_) #[true, true, true, true, true, true, true, true, true, true, true, true, true, true, true, true, true, true, false, false, false] rfl rfl (any_of HT_.out (by kernel_rfl)) (fun _ _ _ h => h) (Or.inr ⟨by rfl, rfl⟩) ?_ ?_
                     rotate_left
                     ·simp only [Act.put, List.setIfInBounds_toArray, List.set_cons_zero, List.set_cons_succ, i64_w, i32_w]
                      rfl
                     refine pure_ (i := 18) (N := some 104) (v := ?_) (a' := ?_) #[true, true, true, true, true, true, true, true, true, true, true, true, true, true, true, true, true, true, true, false, false] rfl rfl (any_of HT_.out (by kernel_rfl)) (fun _ _ _ h => h) (Or.inl ⟨by rfl, ?_⟩) ?_ ?_
                     rotate_left
                     ·intro w'
                      go_simp
                      with_reducible rfl
                     rotate_left
                     ·simp only [Act.put, List.setIfInBounds_toArray, List.set_cons_zero, List.set_cons_succ, i64_w, i32_w]
                      rfl
                     refine pure_ (i := 19) (N := some 105) (v := ?_) (a' := ?_) #[true, true, true, true, true, true, true, true, true, true, true, true, true, true, true, true, true, true, true, true, false] rfl rfl (any_of HT_.out (by kernel_rfl)) (fun _ _ _ h => h) (Or.inl ⟨by rfl, ?_⟩) ?_ ?_
                     rotate_left
                     ·intro w'
                      go_simp
                      with_reducible rfl
                     rotate_left
                     ·simp only [Act.put, List.setIfInBounds_toArray, List.set_cons_zero, List.set_cons_succ, i64_w, i32_w]
                      rfl
                     refine pure_ (i := 20) (N := some 15) (v := ?_) (a' := ?_) #[true, true, true, true, true, true, true, true, true, true, true, true, true, true, true, true, true, true, true, true, true] rfl rfl (any_of HT_.out (by kernel_rfl)) (fun _ _ _ h => h) (Or.inl ⟨by rfl, ?_⟩) ?_ ?_
                     rotate_left
                     ·intro w'
                      go_simp
                      with_reducible rfl
                     rotate_left
                     ·simp only [Act.put, List.setIfInBounds_toArray, List.set_cons_zero, List.set_cons_succ, i64_w, i32_w]
                      rfl
                     refine done_ (done_of HT_.out (by kernel_rfl)) ?_
                     try go_wp2
                     go_roundg k5
                     case measure => have := HJ2.out; have := HJ13.out; have := HK3.out; have := HK4.out; have := HK5.out; omega
                     case rel => exact ⟨(false), (wrap64 (x16_5 + 1)), (by first | rfl | (simp; done) | (simp [*]; done)), (by first | rfl | (simp; done) | (simp [*]; done)), H', ⟨by have := HJ2.out; have := HJ13.out; have := HK3.out; have := HK4.out; have := HK5.out; omega⟩, ⟨by (with_reducible repeat (first | apply Kd.S_alloc | apply Kd.S_drewN | apply Kd.S_drew)); exact HO_6.out⟩, ⟨by (with_reducible repeat (first | apply Kd.R_alloc | apply Kd.R_drewN | apply Kd.R_drew)); exact HO_7.out⟩, ⟨by repeat (first | (with_reducible first | exact HB.out | apply below_alloc | apply pw_below_drewN | apply below_drew1) | exact HB.out)⟩⟩
                   ·rw [if_neg c30] at H
                    exact absurd H (by simp)
                 ·rw [if_neg c27] at H
                  have c27b0 : decide (x16_5 < (t148.length : Int)) = false := decide_eq_false c27
                  clear c27
                  by_cases c39 : x15_5 = true
                  ·subst c39
                   have H1 : (mandrellaw19_ScanTight.l1 k5 l0 (wrap64 (1 + (wrap64 (Int.tmod (IntKind.u64.wrap (a1)) 8)))) t145 t148 x13_3 (wrap64 (x14_4 + 1))) = some r := by rw [if_pos rfl] at H; exact H
                   clear H
                   have H := H1
                   clear H1
                   have H' := Aside0.mk H
                   clear H
                   go_wp2
                   go_roundg k5
                   case measure => have := HJ2.out; have := HJ13.out; have := HK3.out; have := HK4.out; have := HK5.out; omega
                   case rel => exact ⟨(wrap64 (x14_4 + 1)), (by first | rfl | (simp; done) | (simp [*]; done)), H', ⟨by have := HJ2.out; have := HJ13.out; have := HK3.out; have := HK4.out; have := HK5.out; omega⟩, ⟨by (with_reducible repeat (first | apply Kd.S_alloc | apply Kd.S_drewN | apply Kd.S_drew)); exact HO_6.out⟩, ⟨by (with_reducible repeat (first | apply Kd.R_alloc | apply Kd.R_drewN | apply Kd.R_drew)); exact HO_7.out⟩, ⟨by repeat (first | (with_reducible first | exact HB.out | apply below_alloc | apply pw_below_drewN | apply below_drew1) | exact HB.out)⟩⟩
                  ·replace c39 := Bool.eq_false_iff.mpr c39
                   subst c39
                   have H1 : (some false) = some r := by rw [if_neg (show ¬ (false = true) by decide)] at H; exact H
                   clear H
                   have H := H1
                   clear H1
                   obtain rfl := Option.some.inj H
                   go_wp2
                   go_ret
                   exact ⟨by first | rfl | (simp [errW_none, errW_some] <;> rfl) | (simp [*, errW_none, errW_some] <;> rfl), by repeat (first | (with_reducible first | exact HB.out | apply below_alloc | apply pw_below_drewN | apply below_drew1) | exact HB.out)⟩
              ·rw [if_neg c26] at H
               have c26b0 : decide (x14_4 < (wrap64 (1 + (wrap64 (Int.tmod (IntKind.u64.wrap (a1)) 8))))) = false := decide_eq_false c26
               clear c26
               have H' := Aside0.mk H
               clear H
               go_wp2
               go_roundg k4
               case measure => have := HJ2.out; have := HJ13.out; have := HK3.out; have := HK4.out; omega
               case rel => exact ⟨(wrap64 (x13_3 + 1)), (by first | rfl | (simp; done) | (simp [*]; done)), H', ⟨by have := HJ2.out; have := HJ13.out; have := HK3.out; have := HK4.out; omega⟩, ⟨by (with_reducible repeat (first | apply Kd.S_alloc | apply Kd.S_drewN | apply Kd.S_drew)); exact HO_6.out⟩, ⟨by (with_reducible repeat (first | apply Kd.R_alloc | apply Kd.R_drewN | apply Kd.R_drew)); exact HO_7.out⟩, ⟨by repeat (first | (with_reducible first | exact HB.out | apply below_alloc | apply pw_below_drewN | apply below_drew1) | exact HB.out)⟩⟩
          ·rw [if_neg c22] at H
           exact absurd H (by simp)
         ·rw [if_neg c21] at H
          have c21b0 : decide (x13_3 < (t148.length : Int)) = false := decide_eq_false c21
          clear c21
          have H' := Aside0.mk H
          clear H
          obtain ⟨Ao40, co40, eo40⟩ := Kd.R_slice HO_7.out
          subst eo40
          go_wp2
          go_loopg [17] k3 (fun kq v17 w' => ∃ (x17_4 : Int), v17 = .int .i64 x17_4 ∧ Aside0 (mandrellaw19_ScanTight.l3 kq l0 (wrap64 (1 + (wrap64 (Int.tmod (IntKind.u64.wrap (a1)) 8)))) t145 t148 x17_4 = some r) ∧ Aside0 (kq ≤ k3) ∧ Aside0 (Kd.S k28 28 w' w.heap.size (fun _ => True) (.slice Ao16 t145.length co16) t145) ∧ Aside0 (Kd.R (Kd.int .i64) 3 w' w.heap.size (fun _ => True) (.slice Ao40 t148.length co40) t148) ∧ Aside0 (Below w.heap.size w w'))
          case atStart => exact ⟨(0), (by first | rfl | (simp; done) | (simp [*]; done)), H', ⟨Nat.le_refl _⟩, ⟨by (with_reducible repeat (first | apply Kd.S_alloc | apply Kd.S_drewN | apply Kd.S_drew)); exact HO_6.out⟩, ⟨by (with_reducible repeat (first | apply Kd.R_alloc | apply Kd.R_drewN | apply Kd.R_drew)); exact HO_7.out⟩, ⟨by repeat (first | (with_reducible first | exact HB.out | apply below_alloc | apply pw_below_drewN | apply below_drew1) | exact HB.out)⟩⟩
          case round =>
           clear H'
           (try clear c1); (try clear p1); (try clear q1); (try clear hx1); (try clear c2); (try clear p2); (try clear c3); (try clear p6); (try clear c12); (try clear c16); (try clear p16); (try clear q16); (try clear hx16); (try clear c21); (try clear c21b0); (try clear c22); (try clear c26); (try clear c26b0); (try clear c27); (try clear c27b0); (try clear c28); (try clear c30); (try clear c30b0); (try clear c31); (try clear c31b0); (try clear c31b1); (try clear c32); (try clear c32b0); (try clear c33); (try clear c33b0); (try clear c34); (try clear c34b0); (try clear c39); (try clear hx161_0); (try clear hx162_0); (try clear hx162_1); (try clear hx163_0); (try clear hx163_1); (try clear p161); (try clear p162); (try clear p163); (try clear q161); (try clear q162); (try clear q163)
           obtain ⟨x17_4, rfl, HA, HK4, HO_6, HO_7, HB⟩ := hrel
           cases gk with
           | zero => exact absurd HA.out (by simp [mandrellaw19_ScanTight.l3])
           | succ k4 =>
            have H := HA.out
            clear HA
            simp only [mandrellaw19_ScanTight.l3] at H
            by_cases c41 : x17_4 < (l0.length : Int)
            ·rw [if_pos c41] at H
             have c41b0 : decide (x17_4 < (l0.length : Int)) = true := decide_eq_true c41
             clear c41
             by_cases c42 : 0 ≤ x17_4
             ·rw [if_pos c42] at H
              have c42b0 := eq_true c42
              have c42b1 : decide (0 ≤ x17_4) = true := decide_eq_true c42
              clear c42
              by_cases c43 : x17_4 ≤ (wrap64 (x17_4 + 1))
              ·rw [if_pos c43] at H
               have c43b0 := eq_true c43
               have c43b1 : decide (x17_4 ≤ (wrap64 (x17_4 + 1))) = true := decide_eq_true c43
               by_cases c44 : (wrap64 (x17_4 + 1)) ≤ (t145.length : Int)
               ·rw [if_pos c44] at H
                have c44b0 := eq_true c44
                have c44b1 : decide ((wrap64 (x17_4 + 1)) ≤ (t145.length : Int)) = true := decide_eq_true c44
                obtain ⟨y165, hy165⟩ : ∃ y_ : List (S28), y_ = ((t145.take ((wrap64 (x17_4 + 1)) : Int).toNat).drop (x17_4 : Int).toNat) := ⟨_, rfl⟩
                replace H : ((scan_Assign.f k4 y165 (wrap64 (1 + (wrap64 (Int.tmod (IntKind.u64.wrap (a1)) 8))))).bind fun bt169 => (if bt169.2.2.isNone = true then (if bt169.2.1 = 0 then (if (bt169.1.length : Int) = 1 then (if (((rd_T43 l0 x17_4).f0).length : Int) > 0 then (if 0 < (bt169.1.length : Int) then (if (rd bt169.1 0) < 0 then (some false) else (if (rd bt169.1 0) ≥ (wrap64 (1 + (wrap64 (Int.tmod (IntKind.u64.wrap (a1)) 8)))) then (some false) else (mandrellaw19_ScanTight.l3 k4 l0 (wrap64 (1 + (wrap64 (Int.tmod (IntKind.u64.wrap (a1)) 8)))) t145 t148 (wrap64 (x17_4 + 1))))) else (none)) else (mandrellaw19_ScanTight.l3 k4 l0 (wrap64 (1 + (wrap64 (Int.tmod (IntKind.u64.wrap (a1)) 8)))) t145 t148 (wrap64 (x17_4 + 1)))) else (some false)) else (some false)) else (some false))) = some r := by first | (rw [hy165]; with_reducible exact H) | (have H2_ := (Option.bind_some _ _).symm.trans H; rw [hy165]; with_reducible exact H2_) | (have H2_ := (Option.bind_some _ _).symm.trans H; with_reducible exact H2_) | with_reducible exact H | (rw [hy165]; exact H) | exact H
                have Ny165 := Aside0.mk hy165
                clear hy165
                replace H := Option.bind_eq_some_iff.mp H
                obtain ⟨⟨t169, t170, t171⟩, A450, H⟩ := H
                replace H : (if t171.isNone = true then (if t170 = 0 then (if (t169.length : Int) = 1 then (if (((rd_T43 l0 x17_4).f0).length : Int) > 0 then (if 0 < (t169.length : Int) then (if (rd t169 0) < 0 then (some false) else (if (rd t169 0) ≥ (wrap64 (1 + (wrap64 (Int.tmod (IntKind.u64.wrap (a1)) 8)))) then (some false) else (mandrellaw19_ScanTight.l3 k4 l0 (wrap64 (1 + (wrap64 (Int.tmod (IntKind.u64.wrap (a1)) 8)))) t145 t148 (wrap64 (x17_4 + 1))))) else (none)) else (mandrellaw19_ScanTight.l3 k4 l0 (wrap64 (1 + (wrap64 (Int.tmod (IntKind.u64.wrap (a1)) 8)))) t145 t148 (wrap64 (x17_4 + 1)))) else (some false)) else (some false)) else (some false)) = some r := H
                have A45 := Aside0.mk A450
                clear A450
                rcases t171 with _ | q174
                ·have H1 : (if t170 = 0 then (if (t169.length : Int) = 1 then (if (((rd_T43 l0 x17_4).f0).length : Int) > 0 then (if 0 < (t169.length : Int) then (if (rd t169 0) < 0 then (some false) else (if (rd t169 0) ≥ (wrap64 (1 + (wrap64 (Int.tmod (IntKind.u64.wrap (a1)) 8)))) then (some false) else (mandrellaw19_ScanTight.l3 k4 l0 (wrap64 (1 + (wrap64 (Int.tmod (IntKind.u64.wrap (a1)) 8)))) t145 t148 (wrap64 (x17_4 + 1))))) else (none)) else (mandrellaw19_ScanTight.l3 k4 l0 (wrap64 (1 + (wrap64 (Int.tmod (IntKind.u64.wrap (a1)) 8)))) t145 t148 (wrap64 (x17_4 + 1)))) else (some false)) else (some false)) = some r := by rw [if_pos (show (none : Option Int).isNone = true by rfl)] at H; exact H
                 clear H
                 have H := H1
                 clear H1
                 try simp only [errW_none, errW_some]
                 by_cases c46 : t170 = 0
                 ·rw [if_pos c46] at H
                  have c46b0 : (t170 == 0) = true := beq_iff_eq.mpr c46
                  have c46b1 : (t170 != 0) = false := bne_eq_false_iff_eq.mpr c46
                  clear c46
                  by_cases c47 : (t169.length : Int) = 1
                  ·rw [if_pos c47] at H
                   have c47b0 : ((t169.length : Int) == 1) = true := beq_iff_eq.mpr c47
                   have c47b1 : ((t169.length : Int) != 1) = false := bne_eq_false_iff_eq.mpr c47
                   clear c47
                   by_cases c48 : (((rd_T43 l0 x17_4).f0).length : Int) > 0
                   ·rw [if_pos c48] at H
                    have c48b0 : decide (0 < (((rd_T43 l0 x17_4).f0).length : Int)) = true := decide_eq_true c48
                    have c48b1 : decide (0 < ((rd_T43 l0 x17_4).f0).length) = true := decide_eq_true (by omega)
                    clear c48
                    by_cases c49 : 0 < (t169.length : Int)
                    ·rw [if_pos c49] at H
                     have c49b0 : decide (0 < (t169.length : Int)) = true := decide_eq_true c49
                     have c49b1 : decide (0 < t169.length) = true := decide_eq_true (by omega)
                     clear c49
                     by_cases c50 : (rd t169 0) < 0
                     ·rw [if_pos c50] at H
                      have c50b0 : decide ((rd t169 0) < 0) = true := decide_eq_true c50
                      clear c50
                      obtain rfl := Option.some.inj H
                      have q51 : ((wrap64 (x17_4 + 1)) : Int) ≤ ((t145.length : Int) : Int) := of_decide_eq_true (by first | (with_reducible assumption) | assumption)
                      obtain ⟨i051, hi051, _, hsz51, _⟩ := info_parts info28
                      have hroom51 : t145.length ≤ co16 := (Kd.S_reads' HO_6.out).2.1
                      have hC51 : Kd.C k28 _ Ao16 t145.length t145 := (Kd.S_reads' HO_6.out).2.2
                      have ql51 : (x17_4 : Int) ≤ ((wrap64 (x17_4 + 1)) : Int) := of_decide_eq_true (by first | (with_reducible assumption) | assumption)
                      have q051 : (0 : Int) ≤ (x17_4 : Int) := of_decide_eq_true (by first | (with_reducible assumption) | assumption)
                      have hcut51 := cut_mid (P := Try.prog) 23 28 .i64 .i64 Try.underlying23 hi051 2 hsz51 Ao16 t145.length co16 x17_4 (wrap64 (x17_4 + 1)) q051 ql51 q51 hroom51
                      have hr51 := Kd.C_mid (lo := (x17_4 : Int).toNat) (hi := ((wrap64 (x17_4 + 1)) : Int).toNat) (c := co16) hC51 (by omega) (by omega) hroom51
                      obtain ⟨A51, hA51⟩ : ∃ A1, A1 = (if co16 = (x17_4 : Int).toNat then Ao16 else (Ao16 : Option Addr).map (·.add ((x17_4 : Int).toNat * 2))) := ⟨_, rfl⟩
                      obtain ⟨c51, hc51⟩ : ∃ c1, c1 = co16 - (x17_4 : Int).toNat := ⟨_, rfl⟩
                      have hy51 : y165.length = ((wrap64 (x17_4 + 1)) : Int).toNat - (x17_4 : Int).toNat := (by rw [Ny165.out, List.length_drop, List.length_take] <;> omega)
                      rw [show ((t145).take ((wrap64 (x17_4 + 1)) : Int).toNat).drop (x17_4 : Int).toNat = y165 from Ny165.out.symm] at hr51
                      replace hr51 : Kd.C k28 _ A51 y165.length y165 := (by rw [hA51]; exact hr51)
                      rw [← hy51, ← hA51, ← hc51] at hcut51
                      have HR168 := Aside0.mk hr51
                      have HC168 := Aside0.mk (show y165.length ≤ c51 from by rw [hy51, hc51]; exact Nat.sub_le_sub_right (Nat.le_trans (by omega) hroom51) _)
                      clear hr51 hC51 hroom51 hi051 hsz51 hc51
                      have KY51 := Aside0.mk hy51
                      have KA51 := Aside0.mk hA51
                      clear hy51 hA51
                      have KL51 := Aside0.mk (show ((wrap64 (x17_4 + 1)) : Int).toNat ≤ t145.length from by omega)
                      have KM51 := Aside0.mk (show (x17_4 : Int).toNat ≤ ((wrap64 (x17_4 + 1)) : Int).toNat from by omega)
                      replace q51 := eq_true q51
                      go_wp2_with (first | ((with_reducible refine gate_callee (f := 6) rfl ?_); refine goesL_ (some 121) rfl rfl Try.func6 (by kernel_rfl) rfl #[.slice A51 y165.length c51, .int .i64 (wrap64 (1 + (wrap64 (Int.tmod (IntKind.u64.wrap (a1)) 8))))] rfl (by (try simp only [List.map_toArray, List.map_cons, List.map_nil]); first | done | rfl | (simp only [List.length_drop, List.length_take]; rfl)) ?_; (with_reducible refine (scan_Assign.calls k4 _ _ y165 (wrap64 (1 + (wrap64 (Int.tmod (IntKind.u64.wrap (a1)) 8)))) t169 t170 none _ ?side1 ?side2 A45.out).mono ?_); (case side1 => repeat (first | exact (by repeat (first | (with_reducible exact HR168.out) | (with_reducible refine Kd.C_alloc ?_ _) | (with_reducible refine Kd.C_drewN ?_ _) | (with_reducible refine Kd.C_drew ?_) | exact HR168.out)) | (with_reducible refine Kd.C_alloc ?_ _) | (with_reducible refine Kd.C_drewN ?_ _) | (with_reducible refine Kd.C_drew ?_))); (case side2 => exact HC168.out); rintro e w52 ⟨v172, rfl, ho0, hb⟩; refine ⟨_, rfl, ?_⟩; have n0_ := Aside0.mk (Kd.S_below (by (with_reducible repeat (first | apply Kd.S_alloc | apply Kd.S_drewN | apply Kd.S_drew)); exact HO_6.out) hb); have n1_ := Aside0.mk (Kd.R_elder' (by (with_reducible repeat (first | apply Kd.R_alloc | apply Kd.R_drewN | apply Kd.R_drew)); exact HO_7.out) (Kd.R_base ho0) hb); have n2_ := Aside0.mk (Kd.R_lower (Kd.R_new' ho0 (Kd.R_lt (by (with_reducible repeat (first | apply Kd.R_alloc | apply Kd.R_drewN | apply Kd.R_drew)); exact HO_7.out))) (below_size (by repeat (first | (with_reducible first | exact HB.out | apply below_alloc | apply pw_below_drewN | apply below_drew1) | exact HB.out)))); have n3_ := Aside0.mk (Kd.C_below (by repeat (first | (with_reducible exact HR168.out) | (with_reducible refine Kd.C_alloc ?_ _) | (with_reducible refine Kd.C_drewN ?_ _) | (with_reducible refine Kd.C_drew ?_) | exact HR168.out)) hb); have n4_ := Aside0.mk (below_step (by repeat (first | (with_reducible first | exact HB.out | apply below_alloc | apply pw_below_drewN | apply below_drew1) | exact HB.out)) hb); clear HO_6; clear HO_7; clear HR168; clear HB; have HO_6 := n0_; have HO_7 := n1_; have HO173 := n2_; have HR168 := n3_; have HB := n4_; clear n0_ n1_ n2_ n3_ n4_; (try clear hb); (try clear hb2); (try clear hk); (try clear hi); (try clear ho0); (try simp only [errW_none, errW_some]); obtain ⟨Ao53, co53, eo53⟩ := Kd.R_slice HO173.out; subst eo53; have p175 : 0 ≤ (x17_4 : Int) := of_decide_eq_true (by first | (with_reducible assumption) | assumption); have q175 : x17_4 < (l0.length : Int) := of_decide_eq_true (by first | (with_reducible assumption) | assumption); obtain ⟨ad175, A175_0, c175_0, e175, hx175_0, hx175_1, hl175_0, hi175_0⟩ := at_T43 HR0.out x17_4 p175 q175; cases e175; replace hx175_0 := (HB.out.cell (World.block_lt_of_cell? w _ hx175_0)).trans hx175_0; replace hx175_1 := (HB.out.cell (World.block_lt_of_cell? w _ hx175_1)).trans hx175_1; have HR175_0 := Aside0.mk hi175_0; have HC175_0 := Aside0.mk hl175_0; clear hi175_0 hl175_0; replace p175 := eq_true p175; replace q175 := eq_true q175; have p176 : 0 ≤ (0 : Int) := (by omega); have q176 : 0 < (t169.length : Int) := of_decide_eq_true (by first | (with_reducible assumption) | assumption); obtain ⟨ad176, e176, hx176_0⟩ := Kd.at_int (Kd.R_reads' HO173.out).2.2 0 p176 q176; cases e176; have qi176 : (0 < t169.length) = True := eq_true (by omega); (try rw [show ((0 : Int)).toNat = 0 from rfl] at hx176_0); (try rw [Addr.add_zero'] at hx176_0); replace p176 := eq_true p176; replace q176 := eq_true q176))
                      go_ret
                      exact ⟨by first | rfl | (simp [errW_none, errW_some] <;> rfl) | (simp [*, errW_none, errW_some] <;> rfl), by repeat (first | (with_reducible first | exact HB.out | apply below_alloc | apply pw_below_drewN | apply below_drew1) | exact HB.out)⟩
                     ·rw [if_neg c50] at H
                      have c50b0 : decide ((rd t169 0) < 0) = false := decide_eq_false c50
                      clear c50
                      by_cases c54 : (rd t169 0) ≥ (wrap64 (1 + (wrap64 (Int.tmod (IntKind.u64.wrap (a1)) 8))))
                      ·rw [if_pos c54] at H
                       have c54b0 : decide ((wrap64 (1 + (wrap64 (Int.tmod (IntKind.u64.wrap (a1)) 8)))) ≤ (rd t169 0)) = true := decide_eq_true c54
                       clear c54
                       obtain rfl := Option.some.inj H
                       have q55 : ((wrap64 (x17_4 + 1)) : Int) ≤ ((t145.length : Int) : Int) := of_decide_eq_true (by first | (with_reducible assumption) | assumption)
                       obtain ⟨i055, hi055, _, hsz55, _⟩ := info_parts info28
                       have hroom55 : t145.length ≤ co16 := (Kd.S_reads' HO_6.out).2.1
                       have hC55 : Kd.C k28 _ Ao16 t145.length t145 := (Kd.S_reads' HO_6.out).2.2
                       have ql55 : (x17_4 : Int) ≤ ((wrap64 (x17_4 + 1)) : Int) := of_decide_eq_true (by first | (with_reducible assumption) | assumption)
                       have q055 : (0 : Int) ≤ (x17_4 : Int) := of_decide_eq_true (by first | (with_reducible assumption) | assumption)
                       have hcut55 := cut_mid (P := Try.prog) 23 28 .i64 .i64 Try.underlying23 hi055 2 hsz55 Ao16 t145.length co16 x17_4 (wrap64 (x17_4 + 1)) q055 ql55 q55 hroom55
                       have hr55 := Kd.C_mid (lo := (x17_4 : Int).toNat) (hi := ((wrap64 (x17_4 + 1)) : Int).toNat) (c := co16) hC55 (by omega) (by omega) hroom55
                       obtain ⟨A55, hA55⟩ : ∃ A1, A1 = (if co16 = (x17_4 : Int).toNat then Ao16 else (Ao16 : Option Addr).map (·.add ((x17_4 : Int).toNat * 2))) := ⟨_, rfl⟩
                       obtain ⟨c55, hc55⟩ : ∃ c1, c1 = co16 - (x17_4 : Int).toNat := ⟨_, rfl⟩
                       have hy55 : y165.length = ((wrap64 (x17_4 + 1)) : Int).toNat - (x17_4 : Int).toNat := (by rw [Ny165.out, List.length_drop, List.length_take] <;> omega)
                       rw [show ((t145).take ((wrap64 (x17_4 + 1)) : Int).toNat).drop (x17_4 : Int).toNat = y165 from Ny165.out.symm] at hr55
                       replace hr55 : Kd.C k28 _ A55 y165.length y165 := (by rw [hA55]; exact hr55)
                       rw [← hy55, ← hA55, ← hc55] at hcut55
                       have HR168 := Aside0.mk hr55
                       have HC168 := Aside0.mk (show y165.length ≤ c55 from by rw [hy55, hc55]; exact Nat.sub_le_sub_right (Nat.le_trans (by omega) hroom55) _)
                       clear hr55 hC55 hroom55 hi055 hsz55 hc55
                       have KY55 := Aside0.mk hy55
                       have KA55 := Aside0.mk hA55
                       clear hy55 hA55
                       have KL55 := Aside0.mk (show ((wrap64 (x17_4 + 1)) : Int).toNat ≤ t145.length from by omega)
                       have KM55 := Aside0.mk (show (x17_4 : Int).toNat ≤ ((wrap64 (x17_4 + 1)) : Int).toNat from by omega)
                       replace q55 := eq_true q55
                       go_wp2_with (first | ((with_reducible refine gate_callee (f := 6) rfl ?_); refine goesL_ (some 121) rfl rfl Try.func6 (by kernel_rfl) rfl #[.slice A55 y165.length c55, .int .i64 (wrap64 (1 + (wrap64 (Int.tmod (IntKind.u64.wrap (a1)) 8))))] rfl (by (try simp only [List.map_toArray, List.map_cons, List.map_nil]); first | done | rfl | (simp only [List.length_drop, List.length_take]; rfl)) ?_; (with_reducible refine (scan_Assign.calls k4 _ _ y165 (wrap64 (1 + (wrap64 (Int.tmod (IntKind.u64.wrap (a1)) 8)))) t169 t170 none _ ?side1 ?side2 A45.out).mono ?_); (case side1 => repeat (first | exact (by repeat (first | (with_reducible exact HR168.out) | (with_reducible refine Kd.C_alloc ?_ _) | (with_reducible refine Kd.C_drewN ?_ _) | (with_reducible refine Kd.C_drew ?_) | exact HR168.out)) | (with_reducible refine Kd.C_alloc ?_ _) | (with_reducible refine Kd.C_drewN ?_ _) | (with_reducible refine Kd.C_drew ?_))); (case side2 => exact HC168.out); rintro e w56 ⟨v172, rfl, ho0, hb⟩; refine ⟨_, rfl, ?_⟩; have n0_ := Aside0.mk (Kd.S_below (by (with_reducible repeat (first | apply Kd.S_alloc | apply Kd.S_drewN | apply Kd.S_drew)); exact HO_6.out) hb); have n1_ := Aside0.mk (Kd.R_elder' (by (with_reducible repeat (first | apply Kd.R_alloc | apply Kd.R_drewN | apply Kd.R_drew)); exact HO_7.out) (Kd.R_base ho0) hb); have n2_ := Aside0.mk (Kd.R_lower (Kd.R_new' ho0 (Kd.R_lt (by (with_reducible repeat (first | apply Kd.R_alloc | apply Kd.R_drewN | apply Kd.R_drew)); exact HO_7.out))) (below_size (by repeat (first | (with_reducible first | exact HB.out | apply below_alloc | apply pw_below_drewN | apply below_drew1) | exact HB.out)))); have n3_ := Aside0.mk (Kd.C_below (by repeat (first | (with_reducible exact HR168.out) | (with_reducible refine Kd.C_alloc ?_ _) | (with_reducible refine Kd.C_drewN ?_ _) | (with_reducible refine Kd.C_drew ?_) | exact HR168.out)) hb); have n4_ := Aside0.mk (below_step (by repeat (first | (with_reducible first | exact HB.out | apply below_alloc | apply pw_below_drewN | apply below_drew1) | exact HB.out)) hb); clear HO_6; clear HO_7; clear HR168; clear HB; have HO_6 := n0_; have HO_7 := n1_; have HO173 := n2_; have HR168 := n3_; have HB := n4_; clear n0_ n1_ n2_ n3_ n4_; (try clear hb); (try clear hb2); (try clear hk); (try clear hi); (try clear ho0); (try simp only [errW_none, errW_some]); obtain ⟨Ao57, co57, eo57⟩ := Kd.R_slice HO173.out; subst eo57; have p175 : 0 ≤ (x17_4 : Int) := of_decide_eq_true (by first | (with_reducible assumption) | assumption); have q175 : x17_4 < (l0.length : Int) := of_decide_eq_true (by first | (with_reducible assumption) | assumption); obtain ⟨ad175, A175_0, c175_0, e175, hx175_0, hx175_1, hl175_0, hi175_0⟩ := at_T43 HR0.out x17_4 p175 q175; cases e175; replace hx175_0 := (HB.out.cell (World.block_lt_of_cell? w _ hx175_0)).trans hx175_0; replace hx175_1 := (HB.out.cell (World.block_lt_of_cell? w _ hx175_1)).trans hx175_1; have HR175_0 := Aside0.mk hi175_0; have HC175_0 := Aside0.mk hl175_0; clear hi175_0 hl175_0; replace p175 := eq_true p175; replace q175 := eq_true q175; have p176 : 0 ≤ (0 : Int) := (by omega); have q176 : 0 < (t169.length : Int) := of_decide_eq_true (by first | (with_reducible assumption) | assumption); obtain ⟨ad176, e176, hx176_0⟩ := Kd.at_int (Kd.R_reads' HO173.out).2.2 0 p176 q176; cases e176; have qi176 : (0 < t169.length) = True := eq_true (by omega); (try rw [show ((0 : Int)).toNat = 0 from rfl] at hx176_0); (try rw [Addr.add_zero'] at hx176_0); replace p176 := eq_true p176; replace q176 := eq_true q176; have p177 : 0 ≤ (0 : Int) := (by omega); have q177 : 0 < (t169.length : Int) := of_decide_eq_true (by first | (with_reducible assumption) | assumption); obtain ⟨ad177, e177, hx177_0⟩ := Kd.at_int (Kd.R_reads' HO173.out).2.2 0 p177 q177; obtain rfl : ad176 = ad177 := (by injection e177); have qi177 : (0 < t169.length) = True := eq_true (by omega); (try rw [show ((0 : Int)).toNat = 0 from rfl] at hx177_0); (try rw [Addr.add_zero'] at hx177_0); replace p177 := eq_true p177; replace q177 := eq_true q177))
                       go_ret
                       exact ⟨by first | rfl | (simp [errW_none, errW_some] <;> rfl) | (simp [*, errW_none, errW_some] <;> rfl), by repeat (first | (with_reducible first | exact HB.out | apply below_alloc | apply pw_below_drewN | apply below_drew1) | exact HB.out)⟩
                      ·rw [if_neg c54] at H
                       have c54b0 : decide ((wrap64 (1 + (wrap64 (Int.tmod (IntKind.u64.wrap (a1)) 8)))) ≤ (rd t169 0)) = false := decide_eq_false c54
                       clear c54
                       have H' := Aside0.mk H
                       clear H
                       have q58 : ((wrap64 (x17_4 + 1)) : Int) ≤ ((t145.length : Int) : Int) := of_decide_eq_true (by first | (with_reducible assumption) | assumption)
                       obtain ⟨i058, hi058, _, hsz58, _⟩ := info_parts info28
                       have hroom58 : t145.length ≤ co16 := (Kd.S_reads' HO_6.out).2.1
                       have hC58 : Kd.C k28 _ Ao16 t145.length t145 := (Kd.S_reads' HO_6.out).2.2
                       have ql58 : (x17_4 : Int) ≤ ((wrap64 (x17_4 + 1)) : Int) := of_decide_eq_true (by first | (with_reducible assumption) | assumption)
                       have q058 : (0 : Int) ≤ (x17_4 : Int) := of_decide_eq_true (by first | (with_reducible assumption) | assumption)
                       have hcut58 := cut_mid (P := Try.prog) 23 28 .i64 .i64 Try.underlying23 hi058 2 hsz58 Ao16 t145.length co16 x17_4 (wrap64 (x17_4 + 1)) q058 ql58 q58 hroom58
                       have hr58 := Kd.C_mid (lo := (x17_4 : Int).toNat) (hi := ((wrap64 (x17_4 + 1)) : Int).toNat) (c := co16) hC58 (by omega) (by omega) hroom58
                       obtain ⟨A58, hA58⟩ : ∃ A1, A1 = (if co16 = (x17_4 : Int).toNat then Ao16 else (Ao16 : Option Addr).map (·.add ((x17_4 : Int).toNat * 2))) := ⟨_, rfl⟩
                       obtain ⟨c58, hc58⟩ : ∃ c1, c1 = co16 - (x17_4 : Int).toNat := ⟨_, rfl⟩
                       have hy58 : y165.length = ((wrap64 (x17_4 + 1)) : Int).toNat - (x17_4 : Int).toNat := (by rw [Ny165.out, List.length_drop, List.length_take] <;> omega)
                       rw [show ((t145).take ((wrap64 (x17_4 + 1)) : Int).toNat).drop (x17_4 : Int).toNat = y165 from Ny165.out.symm] at hr58
                       replace hr58 : Kd.C k28 _ A58 y165.length y165 := (by rw [hA58]; exact hr58)
                       rw [← hy58, ← hA58, ← hc58] at hcut58
                       have HR168 := Aside0.mk hr58
                       have HC168 := Aside0.mk (show y165.length ≤ c58 from by rw [hy58, hc58]; exact Nat.sub_le_sub_right (Nat.le_trans (by omega) hroom58) _)
                       clear hr58 hC58 hroom58 hi058 hsz58 hc58
                       have KY58 := Aside0.mk hy58
                       have KA58 := Aside0.mk hA58
                       clear hy58 hA58
                       have KL58 := Aside0.mk (show ((wrap64 (x17_4 + 1)) : Int).toNat ≤ t145.length from by omega)
                       have KM58 := Aside0.mk (show (x17_4 : Int).toNat ≤ ((wrap64 (x17_4 + 1)) : Int).toNat from by omega)
                       replace q58 := eq_true q58
                       go_wp2_with (first | ((with_reducible refine gate_callee (f := 6) rfl ?_); refine goesL_ (some 121) rfl rfl Try.func6 (by kernel_rfl) rfl #[.slice A58 y165.length c58, .int .i64 (wrap64 (1 + (wrap64 (Int.tmod (IntKind.u64.wrap (a1)) 8))))] rfl (by (try simp only [List.map_toArray, List.map_cons, List.map_nil]); first | done | rfl | (simp only [List.length_drop, List.length_take]; rfl)) ?_; (with_reducible refine (scan_Assign.calls k4 _ _ y165 (wrap64 (1 + (wrap64 (Int.tmod (IntKind.u64.wrap (a1)) 8)))) t169 t170 none _ ?side1 ?side2 A45.out).mono ?_); (case side1 => repeat (first | exact (by repeat (first | (with_reducible exact HR168.out) | (with_reducible refine Kd.C_alloc ?_ _) | (with_reducible refine Kd.C_drewN ?_ _) | (with_reducible refine Kd.C_drew ?_) | exact HR168.out)) | (with_reducible refine Kd.C_alloc ?_ _) | (with_reducible refine Kd.C_drewN ?_ _) | (with_reducible refine Kd.C_drew ?_))); (case side2 => exact HC168.out); rintro e w59 ⟨v172, rfl, ho0, hb⟩; refine ⟨_, rfl, ?_⟩; have n0_ := Aside0.mk (Kd.S_below (by (with_reducible repeat (first | apply Kd.S_alloc | apply Kd.S_drewN | apply Kd.S_drew)); exact HO_6.out) hb); have n1_ := Aside0.mk (Kd.R_elder' (by (with_reducible repeat (first | apply Kd.R_alloc | apply Kd.R_drewN | apply Kd.R_drew)); exact HO_7.out) (Kd.R_base ho0) hb); have n2_ := Aside0.mk (Kd.R_lower (Kd.R_new' ho0 (Kd.R_lt (by (with_reducible repeat (first | apply Kd.R_alloc | apply Kd.R_drewN | apply Kd.R_drew)); exact HO_7.out))) (below_size (by repeat (first | (with_reducible first | exact HB.out | apply below_alloc | apply pw_below_drewN | apply below_drew1) | exact HB.out)))); have n3_ := Aside0.mk (Kd.C_below (by repeat (first | (with_reducible exact HR168.out) | (with_reducible refine Kd.C_alloc ?_ _) | (with_reducible refine Kd.C_drewN ?_ _) | (with_reducible refine Kd.C_drew ?_) | exact HR168.out)) hb); have n4_ := Aside0.mk (below_step (by repeat (first | (with_reducible first | exact HB.out | apply below_alloc | apply pw_below_drewN | apply below_drew1) | exact HB.out)) hb); clear HO_6; clear HO_7; clear HR168; clear HB; have HO_6 := n0_; have HO_7 := n1_; have HO173 := n2_; have HR168 := n3_; have HB := n4_; clear n0_ n1_ n2_ n3_ n4_; (try clear hb); (try clear hb2); (try clear hk); (try clear hi); (try clear ho0); (try simp only [errW_none, errW_some]); obtain ⟨Ao60, co60, eo60⟩ := Kd.R_slice HO173.out; subst eo60; have p175 : 0 ≤ (x17_4 : Int) := of_decide_eq_true (by first | (with_reducible assumption) | assumption); have q175 : x17_4 < (l0.length : Int) := of_decide_eq_true (by first | (with_reducible assumption) | assumption); obtain ⟨ad175, A175_0, c175_0, e175, hx175_0, hx175_1, hl175_0, hi175_0⟩ := at_T43 HR0.out x17_4 p175 q175; cases e175; replace hx175_0 := (HB.out.cell (World.block_lt_of_cell? w _ hx175_0)).trans hx175_0; replace hx175_1 := (HB.out.cell (World.block_lt_of_cell? w _ hx175_1)).trans hx175_1; have HR175_0 := Aside0.mk hi175_0; have HC175_0 := Aside0.mk hl175_0; clear hi175_0 hl175_0; replace p175 := eq_true p175; replace q175 := eq_true q175; have p176 : 0 ≤ (0 : Int) := (by omega); have q176 : 0 < (t169.length : Int) := of_decide_eq_true (by first | (with_reducible assumption) | assumption); obtain ⟨ad176, e176, hx176_0⟩ := Kd.at_int (Kd.R_reads' HO173.out).2.2 0 p176 q176; cases e176; have qi176 : (0 < t169.length) = True := eq_true (by omega); (try rw [show ((0 : Int)).toNat = 0 from rfl] at hx176_0); (try rw [Addr.add_zero'] at hx176_0); replace p176 := eq_true p176; replace q176 := eq_true q176; have p177 : 0 ≤ (0 : Int) := (by omega); have q177 : 0 < (t169.length : Int) := of_decide_eq_true (by first | (with_reducible assumption) | assumption); obtain ⟨ad177, e177, hx177_0⟩ := Kd.at_int (Kd.R_reads' HO173.out).2.2 0 p177 q177; obtain rfl : ad176 = ad177 := (by injection e177); have qi177 : (0 < t169.length) = True := eq_true (by omega); (try rw [show ((0 : Int)).toNat = 0 from rfl] at hx177_0); (try rw [Addr.add_zero'] at hx177_0); replace p177 := eq_true p177; replace q177 := eq_true q177))
                       go_roundg k4
                       case measure => have := HJ2.out; have := HJ13.out; have := HK3.out; have := HK4.out; omega
                       case rel => exact ⟨(wrap64 (x17_4 + 1)), (by first | rfl | (simp; done) | (simp [*]; done)), H', ⟨by have := HJ2.out; have := HJ13.out; have := HK3.out; have := HK4.out; omega⟩, ⟨by (with_reducible repeat (first | apply Kd.S_alloc | apply Kd.S_drewN | apply Kd.S_drew)); exact HO_6.out⟩, ⟨by (with_reducible repeat (first | apply Kd.R_alloc | apply Kd.R_drewN | apply Kd.R_drew)); exact Kd.R_mono HO_7.out (fun _ hk => trivial)⟩, ⟨by repeat (first | (with_reducible first | exact HB.out | apply below_alloc | apply pw_below_drewN | apply below_drew1) | exact HB.out)⟩⟩
                    ·rw [if_neg c49] at H
                     exact absurd H (by simp)
                   ·rw [if_neg c48] at H
                    have c48b0 : decide (0 < (((rd_T43 l0 x17_4).f0).length : Int)) = false := decide_eq_false c48
                    have c48b1 : decide (0 < ((rd_T43 l0 x17_4).f0).length) = false := decide_eq_false (by omega)
                    clear c48
                    have H' := Aside0.mk H
                    clear H
                    have q61 : ((wrap64 (x17_4 + 1)) : Int) ≤ ((t145.length : Int) : Int) := of_decide_eq_true (by first | (with_reducible assumption) | assumption)
                    obtain ⟨i061, hi061, _, hsz61, _⟩ := info_parts info28
                    have hroom61 : t145.length ≤ co16 := (Kd.S_reads' HO_6.out).2.1
                    have hC61 : Kd.C k28 _ Ao16 t145.length t145 := (Kd.S_reads' HO_6.out).2.2
                    have ql61 : (x17_4 : Int) ≤ ((wrap64 (x17_4 + 1)) : Int) := of_decide_eq_true (by first | (with_reducible assumption) | assumption)
                    have q061 : (0 : Int) ≤ (x17_4 : Int) := of_decide_eq_true (by first | (with_reducible assumption) | assumption)
                    have hcut61 := cut_mid (P := Try.prog) 23 28 .i64 .i64 Try.underlying23 hi061 2 hsz61 Ao16 t145.length co16 x17_4 (wrap64 (x17_4 + 1)) q061 ql61 q61 hroom61
                    have hr61 := Kd.C_mid (lo := (x17_4 : Int).toNat) (hi := ((wrap64 (x17_4 + 1)) : Int).toNat) (c := co16) hC61 (by omega) (by omega) hroom61
                    obtain ⟨A61, hA61⟩ : ∃ A1, A1 = (if co16 = (x17_4 : Int).toNat then Ao16 else (Ao16 : Option Addr).map (·.add ((x17_4 : Int).toNat * 2))) := ⟨_, rfl⟩
                    obtain ⟨c61, hc61⟩ : ∃ c1, c1 = co16 - (x17_4 : Int).toNat := ⟨_, rfl⟩
                    have hy61 : y165.length = ((wrap64 (x17_4 + 1)) : Int).toNat - (x17_4 : Int).toNat := (by rw [Ny165.out, List.length_drop, List.length_take] <;> omega)
                    rw [show ((t145).take ((wrap64 (x17_4 + 1)) : Int).toNat).drop (x17_4 : Int).toNat = y165 from Ny165.out.symm] at hr61
                    replace hr61 : Kd.C k28 _ A61 y165.length y165 := (by rw [hA61]; exact hr61)
                    rw [← hy61, ← hA61, ← hc61] at hcut61
                    have HR168 := Aside0.mk hr61
                    have HC168 := Aside0.mk (show y165.length ≤ c61 from by rw [hy61, hc61]; exact Nat.sub_le_sub_right (Nat.le_trans (by omega) hroom61) _)
                    clear hr61 hC61 hroom61 hi061 hsz61 hc61
                    have KY61 := Aside0.mk hy61
                    have KA61 := Aside0.mk hA61
                    clear hy61 hA61
                    have KL61 := Aside0.mk (show ((wrap64 (x17_4 + 1)) : Int).toNat ≤ t145.length from by omega)
                    have KM61 := Aside0.mk (show (x17_4 : Int).toNat ≤ ((wrap64 (x17_4 + 1)) : Int).toNat from by omega)
                    replace q61 := eq_true q61
                    go_wp2_with (first | ((with_reducible refine gate_callee (f := 6) rfl ?_); refine goesL_ (some 121) rfl rfl Try.func6 (by kernel_rfl) rfl #[.slice A61 y165.length c61, .int .i64 (wrap64 (1 + (wrap64 (Int.tmod (IntKind.u64.wrap (a1)) 8))))] rfl (by (try simp only [List.map_toArray, List.map_cons, List.map_nil]); first | done | rfl | (simp only [List.length_drop, List.length_take]; rfl)) ?_; (with_reducible refine (scan_Assign.calls k4 _ _ y165 (wrap64 (1 + (wrap64 (Int.tmod (IntKind.u64.wrap (a1)) 8)))) t169 t170 none _ ?side1 ?side2 A45.out).mono ?_); (case side1 => repeat (first | exact (by repeat (first | (with_reducible exact HR168.out) | (with_reducible refine Kd.C_alloc ?_ _) | (with_reducible refine Kd.C_drewN ?_ _) | (with_reducible refine Kd.C_drew ?_) | exact HR168.out)) | (with_reducible refine Kd.C_alloc ?_ _) | (with_reducible refine Kd.C_drewN ?_ _) | (with_reducible refine Kd.C_drew ?_))); (case side2 => exact HC168.out); rintro e w62 ⟨v172, rfl, ho0, hb⟩; refine ⟨_, rfl, ?_⟩; have n0_ := Aside0.mk (Kd.S_below (by (with_reducible repeat (first | apply Kd.S_alloc | apply Kd.S_drewN | apply Kd.S_drew)); exact HO_6.out) hb); have n1_ := Aside0.mk (Kd.R_elder' (by (with_reducible repeat (first | apply Kd.R_alloc | apply Kd.R_drewN | apply Kd.R_drew)); exact HO_7.out) (Kd.R_base ho0) hb); have n2_ := Aside0.mk (Kd.R_lower (Kd.R_new' ho0 (Kd.R_lt (by (with_reducible repeat (first | apply Kd.R_alloc | apply Kd.R_drewN | apply Kd.R_drew)); exact HO_7.out))) (below_size (by repeat (first | (with_reducible first | exact HB.out | apply below_alloc | apply pw_below_drewN | apply below_drew1) | exact HB.out)))); have n3_ := Aside0.mk (Kd.C_below (by repeat (first | (with_reducible exact HR168.out) | (with_reducible refine Kd.C_alloc ?_ _) | (with_reducible refine Kd.C_drewN ?_ _) | (with_reducible refine Kd.C_drew ?_) | exact HR168.out)) hb); have n4_ := Aside0.mk (below_step (by repeat (first | (with_reducible first | exact HB.out | apply below_alloc | apply pw_below_drewN | apply below_drew1) | exact HB.out)) hb); clear HO_6; clear HO_7; clear HR168; clear HB; have HO_6 := n0_; have HO_7 := n1_; have HO173 := n2_; have HR168 := n3_; have HB := n4_; clear n0_ n1_ n2_ n3_ n4_; (try clear hb); (try clear hb2); (try clear hk); (try clear hi); (try clear ho0); (try simp only [errW_none, errW_some]); obtain ⟨Ao63, co63, eo63⟩ := Kd.R_slice HO173.out; subst eo63; have p175 : 0 ≤ (x17_4 : Int) := of_decide_eq_true (by first | (with_reducible assumption) | assumption); have q175 : x17_4 < (l0.length : Int) := of_decide_eq_true (by first | (with_reducible assumption) | assumption); obtain ⟨ad175, A175_0, c175_0, e175, hx175_0, hx175_1, hl175_0, hi175_0⟩ := at_T43 HR0.out x17_4 p175 q175; cases e175; replace hx175_0 := (HB.out.cell (World.block_lt_of_cell? w _ hx175_0)).trans hx175_0; replace hx175_1 := (HB.out.cell (World.block_lt_of_cell? w _ hx175_1)).trans hx175_1; have HR175_0 := Aside0.mk hi175_0; have HC175_0 := Aside0.mk hl175_0; clear hi175_0 hl175_0; replace p175 := eq_true p175; replace q175 := eq_true q175))
                    go_roundg k4
                    case measure => have := HJ2.out; have := HJ13.out; have := HK3.out; have := HK4.out; omega
                    case rel => exact ⟨(wrap64 (x17_4 + 1)), (by first | rfl | (simp; done) | (simp [*]; done)), H', ⟨by have := HJ2.out; have := HJ13.out; have := HK3.out; have := HK4.out; omega⟩, ⟨by (with_reducible repeat (first | apply Kd.S_alloc | apply Kd.S_drewN | apply Kd.S_drew)); exact HO_6.out⟩, ⟨by (with_reducible repeat (first | apply Kd.R_alloc | apply Kd.R_drewN | apply Kd.R_drew)); exact Kd.R_mono HO_7.out (fun _ hk => trivial)⟩, ⟨by repeat (first | (with_reducible first | exact HB.out | apply below_alloc | apply pw_below_drewN | apply below_drew1) | exact HB.out)⟩⟩
                  ·rw [if_neg c47] at H
                   have c47b0 : ((t169.length : Int) == 1) = false := beq_eq_false_iff_ne.mpr c47
                   have c47b1 : ((t169.length : Int) != 1) = true := bne_iff_ne.mpr c47
                   obtain rfl := Option.some.inj H
                   have q64 : ((wrap64 (x17_4 + 1)) : Int) ≤ ((t145.length : Int) : Int) := of_decide_eq_true (by first | (with_reducible assumption) | assumption)
                   obtain ⟨i064, hi064, _, hsz64, _⟩ := info_parts info28
                   have hroom64 : t145.length ≤ co16 := (Kd.S_reads' HO_6.out).2.1
                   have hC64 : Kd.C k28 _ Ao16 t145.length t145 := (Kd.S_reads' HO_6.out).2.2
                   have ql64 : (x17_4 : Int) ≤ ((wrap64 (x17_4 + 1)) : Int) := of_decide_eq_true (by first | (with_reducible assumption) | assumption)
                   have q064 : (0 : Int) ≤ (x17_4 : Int) := of_decide_eq_true (by first | (with_reducible assumption) | assumption)
                   have hcut64 := cut_mid (P := Try.prog) 23 28 .i64 .i64 Try.underlying23 hi064 2 hsz64 Ao16 t145.length co16 x17_4 (wrap64 (x17_4 + 1)) q064 ql64 q64 hroom64
                   have hr64 := Kd.C_mid (lo := (x17_4 : Int).toNat) (hi := ((wrap64 (x17_4 + 1)) : Int).toNat) (c := co16) hC64 (by omega) (by omega) hroom64
                   obtain ⟨A64, hA64⟩ : ∃ A1, A1 = (if co16 = (x17_4 : Int).toNat then Ao16 else (Ao16 : Option Addr).map (·.add ((x17_4 : Int).toNat * 2))) := ⟨_, rfl⟩
                   obtain ⟨c64, hc64⟩ : ∃ c1, c1 = co16 - (x17_4 : Int).toNat := ⟨_, rfl⟩
                   have hy64 : y165.length = ((wrap64 (x17_4 + 1)) : Int).toNat - (x17_4 : Int).toNat := (by rw [Ny165.out, List.length_drop, List.length_take] <;> omega)
                   rw [show ((t145).take ((wrap64 (x17_4 + 1)) : Int).toNat).drop (x17_4 : Int).toNat = y165 from Ny165.out.symm] at hr64
                   replace hr64 : Kd.C k28 _ A64 y165.length y165 := (by rw [hA64]; exact hr64)
                   rw [← hy64, ← hA64, ← hc64] at hcut64
                   have HR168 := Aside0.mk hr64
                   have HC168 := Aside0.mk (show y165.length ≤ c64 from by rw [hy64, hc64]; exact Nat.sub_le_sub_right (Nat.le_trans (by omega) hroom64) _)
                   clear hr64 hC64 hroom64 hi064 hsz64 hc64
                   have KY64 := Aside0.mk hy64
                   have KA64 := Aside0.mk hA64
                   clear hy64 hA64
                   have KL64 := Aside0.mk (show ((wrap64 (x17_4 + 1)) : Int).toNat ≤ t145.length from by omega)
                   have KM64 := Aside0.mk (show (x17_4 : Int).toNat ≤ ((wrap64 (x17_4 + 1)) : Int).toNat from by omega)
                   replace q64 := eq_true q64
                   go_wp2_with (first | ((with_reducible refine gate_callee (f := 6) rfl ?_); refine goesL_ (some 121) rfl rfl Try.func6 (by kernel_rfl) rfl #[.slice A64 y165.length c64, .int .i64 (wrap64 (1 + (wrap64 (Int.tmod (IntKind.u64.wrap (a1)) 8))))] rfl (by (try simp only [List.map_toArray, List.map_cons, List.map_nil]); first | done | rfl | (simp only [List.length_drop, List.length_take]; rfl)) ?_; (with_reducible refine (scan_Assign.calls k4 _ _ y165 (wrap64 (1 + (wrap64 (Int.tmod (IntKind.u64.wrap (a1)) 8)))) t169 t170 none _ ?side1 ?side2 A45.out).mono ?_); (case side1 => repeat (first | exact (by repeat (first | (with_reducible exact HR168.out) | (with_reducible refine Kd.C_alloc ?_ _) | (with_reducible refine Kd.C_drewN ?_ _) | (with_reducible refine Kd.C_drew ?_) | exact HR168.out)) | (with_reducible refine Kd.C_alloc ?_ _) | (with_reducible refine Kd.C_drewN ?_ _) | (with_reducible refine Kd.C_drew ?_))); (case side2 => exact HC168.out); rintro e w65 ⟨v172, rfl, ho0, hb⟩; refine ⟨_, rfl, ?_⟩; have n0_ := Aside0.mk (Kd.S_below (by (with_reducible repeat (first | apply Kd.S_alloc | apply Kd.S_drewN | apply Kd.S_drew)); exact HO_6.out) hb); have n1_ := Aside0.mk (Kd.R_elder' (by (with_reducible repeat (first | apply Kd.R_alloc | apply Kd.R_drewN | apply Kd.R_drew)); exact HO_7.out) (Kd.R_base ho0) hb); have n2_ := Aside0.mk (Kd.R_lower (Kd.R_new' ho0 (Kd.R_lt (by (with_reducible repeat (first | apply Kd.R_alloc | apply Kd.R_drewN | apply Kd.R_drew)); exact HO_7.out))) (below_size (by repeat (first | (with_reducible first | exact HB.out | apply below_alloc | apply pw_below_drewN | apply below_drew1) | exact HB.out)))); have n3_ := Aside0.mk (Kd.C_below (by repeat (first | (with_reducible exact HR168.out) | (with_reducible refine Kd.C_alloc ?_ _) | (with_reducible refine Kd.C_drewN ?_ _) | (with_reducible refine Kd.C_drew ?_) | exact HR168.out)) hb); have n4_ := Aside0.mk (below_step (by repeat (first | (with_reducible first | exact HB.out | apply below_alloc | apply pw_below_drewN | apply below_drew1) | exact HB.out)) hb); clear HO_6; clear HO_7; clear HR168; clear HB; have HO_6 := n0_; have HO_7 := n1_; have HO173 := n2_; have HR168 := n3_; have HB := n4_; clear n0_ n1_ n2_ n3_ n4_; (try clear hb); (try clear hb2); (try clear hk); (try clear hi); (try clear ho0); (try simp only [errW_none, errW_some]); obtain ⟨Ao66, co66, eo66⟩ := Kd.R_slice HO173.out; subst eo66))
                   go_ret
                   exact ⟨by first | rfl | (simp [errW_none, errW_some] <;> rfl) | (simp [*, errW_none, errW_some] <;> rfl), by repeat (first | (with_reducible first | exact HB.out | apply below_alloc | apply pw_below_drewN | apply below_drew1) | exact HB.out)⟩
                 ·rw [if_neg c46] at H
                  have c46b0 : (t170 == 0) = false := beq_eq_false_iff_ne.mpr c46
                  have c46b1 : (t170 != 0) = true := bne_iff_ne.mpr c46
                  obtain rfl := Option.some.inj H
                  have q67 : ((wrap64 (x17_4 + 1)) : Int) ≤ ((t145.length : Int) : Int) := of_decide_eq_true (by first | (with_reducible assumption) | assumption)
                  obtain ⟨i067, hi067, _, hsz67, _⟩ := info_parts info28
                  have hroom67 : t145.length ≤ co16 := (Kd.S_reads' HO_6.out).2.1
                  have hC67 : Kd.C k28 _ Ao16 t145.length t145 := (Kd.S_reads' HO_6.out).2.2
                  have ql67 : (x17_4 : Int) ≤ ((wrap64 (x17_4 + 1)) : Int) := of_decide_eq_true (by first | (with_reducible assumption) | assumption)
                  have q067 : (0 : Int) ≤ (x17_4 : Int) := of_decide_eq_true (by first | (with_reducible assumption) | assumption)
                  have hcut67 := cut_mid (P := Try.prog) 23 28 .i64 .i64 Try.underlying23 hi067 2 hsz67 Ao16 t145.length co16 x17_4 (wrap64 (x17_4 + 1)) q067 ql67 q67 hroom67
                  have hr67 := Kd.C_mid (lo := (x17_4 : Int).toNat) (hi := ((wrap64 (x17_4 + 1)) : Int).toNat) (c := co16) hC67 (by omega) (by omega) hroom67
                  obtain ⟨A67, hA67⟩ : ∃ A1, A1 = (if co16 = (x17_4 : Int).toNat then Ao16 else (Ao16 : Option Addr).map (·.add ((x17_4 : Int).toNat * 2))) := ⟨_, rfl⟩
                  obtain ⟨c67, hc67⟩ : ∃ c1, c1 = co16 - (x17_4 : Int).toNat := ⟨_, rfl⟩
                  have hy67 : y165.length = ((wrap64 (x17_4 + 1)) : Int).toNat - (x17_4 : Int).toNat := (by rw [Ny165.out, List.length_drop, List.length_take] <;> omega)
                  rw [show ((t145).take ((wrap64 (x17_4 + 1)) : Int).toNat).drop (x17_4 : Int).toNat = y165 from Ny165.out.symm] at hr67
                  replace hr67 : Kd.C k28 _ A67 y165.length y165 := (by rw [hA67]; exact hr67)
                  rw [← hy67, ← hA67, ← hc67] at hcut67
                  have HR168 := Aside0.mk hr67
                  have HC168 := Aside0.mk (show y165.length ≤ c67 from by rw [hy67, hc67]; exact Nat.sub_le_sub_right (Nat.le_trans (by omega) hroom67) _)
                  clear hr67 hC67 hroom67 hi067 hsz67 hc67
                  have KY67 := Aside0.mk hy67
                  have KA67 := Aside0.mk hA67
                  clear hy67 hA67
                  have KL67 := Aside0.mk (show ((wrap64 (x17_4 + 1)) : Int).toNat ≤ t145.length from by omega)
                  have KM67 := Aside0.mk (show (x17_4 : Int).toNat ≤ ((wrap64 (x17_4 + 1)) : Int).toNat from by omega)
                  replace q67 := eq_true q67
                  go_wp2_with (first | ((with_reducible refine gate_callee (f := 6) rfl ?_); refine goesL_ (some 121) rfl rfl Try.func6 (by kernel_rfl) rfl #[.slice A67 y165.length c67, .int .i64 (wrap64 (1 + (wrap64 (Int.tmod (IntKind.u64.wrap (a1)) 8))))] rfl (by (try simp only [List.map_toArray, List.map_cons, List.map_nil]); first | done | rfl | (simp only [List.length_drop, List.length_take]; rfl)) ?_; (with_reducible refine (scan_Assign.calls k4 _ _ y165 (wrap64 (1 + (wrap64 (Int.tmod (IntKind.u64.wrap (a1)) 8)))) t169 t170 none _ ?side1 ?side2 A45.out).mono ?_); (case side1 => repeat (first | exact (by repeat (first | (with_reducible exact HR168.out) | (with_reducible refine Kd.C_alloc ?_ _) | (with_reducible refine Kd.C_drewN ?_ _) | (with_reducible refine Kd.C_drew ?_) | exact HR168.out)) | (with_reducible refine Kd.C_alloc ?_ _) | (with_reducible refine Kd.C_drewN ?_ _) | (with_reducible refine Kd.C_drew ?_))); (case side2 => exact HC168.out); rintro e w68 ⟨v172, rfl, ho0, hb⟩; refine ⟨_, rfl, ?_⟩; have n0_ := Aside0.mk (Kd.S_below (by (with_reducible repeat (first | apply Kd.S_alloc | apply Kd.S_drewN | apply Kd.S_drew)); exact HO_6.out) hb); have n1_ := Aside0.mk (Kd.R_elder' (by (with_reducible repeat (first | apply Kd.R_alloc | apply Kd.R_drewN | apply Kd.R_drew)); exact HO_7.out) (Kd.R_base ho0) hb); have n2_ := Aside0.mk (Kd.R_lower (Kd.R_new' ho0 (Kd.R_lt (by (with_reducible repeat (first | apply Kd.R_alloc | apply Kd.R_drewN | apply Kd.R_drew)); exact HO_7.out))) (below_size (by repeat (first | (with_reducible first | exact HB.out | apply below_alloc | apply pw_below_drewN | apply below_drew1) | exact HB.out)))); have n3_ := Aside0.mk (Kd.C_below (by repeat (first | (with_reducible exact HR168.out) | (with_reducible refine Kd.C_alloc ?_ _) | (with_reducible refine Kd.C_drewN ?_ _) | (with_reducible refine Kd.C_drew ?_) | exact HR168.out)) hb); have n4_ := Aside0.mk (below_step (by repeat (first | (with_reducible first | exact HB.out | apply below_alloc | apply pw_below_drewN | apply below_drew1) | exact HB.out)) hb); clear HO_6; clear HO_7; clear HR168; clear HB; have HO_6 := n0_; have HO_7 := n1_; have HO173 := n2_; have HR168 := n3_; have HB := n4_; clear n0_ n1_ n2_ n3_ n4_; (try clear hb); (try clear hb2); (try clear hk); (try clear hi); (try clear ho0); (try simp only [errW_none, errW_some])))
                  go_ret
                  exact ⟨by first | rfl | (simp [errW_none, errW_some] <;> rfl) | (simp [*, errW_none, errW_some] <;> rfl), by repeat (first | (with_reducible first | exact HB.out | apply below_alloc | apply pw_below_drewN | apply below_drew1) | exact HB.out)⟩
                ·have H1 : (some false) = some r := by rw [if_neg (show ¬ (some q174).isNone = true by simp)] at H; exact H
                 clear H
                 have H := H1
                 clear H1
                 try simp only [errW_none, errW_some]
                 obtain rfl := Option.some.inj H
                 have q69 : ((wrap64 (x17_4 + 1)) : Int) ≤ ((t145.length : Int) : Int) := of_decide_eq_true (by first | (with_reducible assumption) | assumption)
                 obtain ⟨i069, hi069, _, hsz69, _⟩ := info_parts info28
                 have hroom69 : t145.length ≤ co16 := (Kd.S_reads' HO_6.out).2.1
                 have hC69 : Kd.C k28 _ Ao16 t145.length t145 := (Kd.S_reads' HO_6.out).2.2
                 have ql69 : (x17_4 : Int) ≤ ((wrap64 (x17_4 + 1)) : Int) := of_decide_eq_true (by first | (with_reducible assumption) | assumption)
                 have q069 : (0 : Int) ≤ (x17_4 : Int) := of_decide_eq_true (by first | (with_reducible assumption) | assumption)
                 have hcut69 := cut_mid (P := Try.prog) 23 28 .i64 .i64 Try.underlying23 hi069 2 hsz69 Ao16 t145.length co16 x17_4 (wrap64 (x17_4 + 1)) q069 ql69 q69 hroom69
                 have hr69 := Kd.C_mid (lo := (x17_4 : Int).toNat) (hi := ((wrap64 (x17_4 + 1)) : Int).toNat) (c := co16) hC69 (by omega) (by omega) hroom69
                 obtain ⟨A69, hA69⟩ : ∃ A1, A1 = (if co16 = (x17_4 : Int).toNat then Ao16 else (Ao16 : Option Addr).map (·.add ((x17_4 : Int).toNat * 2))) := ⟨_, rfl⟩
                 obtain ⟨c69, hc69⟩ : ∃ c1, c1 = co16 - (x17_4 : Int).toNat := ⟨_, rfl⟩
                 have hy69 : y165.length = ((wrap64 (x17_4 + 1)) : Int).toNat - (x17_4 : Int).toNat := (by rw [Ny165.out, List.length_drop, List.length_take] <;> omega)
                 rw [show ((t145).take ((wrap64 (x17_4 + 1)) : Int).toNat).drop (x17_4 : Int).toNat = y165 from Ny165.out.symm] at hr69
                 replace hr69 : Kd.C k28 _ A69 y165.length y165 := (by rw [hA69]; exact hr69)
                 rw [← hy69, ← hA69, ← hc69] at hcut69
                 have HR168 := Aside0.mk hr69
                 have HC168 := Aside0.mk (show y165.length ≤ c69 from by rw [hy69, hc69]; exact Nat.sub_le_sub_right (Nat.le_trans (by omega) hroom69) _)
                 clear hr69 hC69 hroom69 hi069 hsz69 hc69
                 have KY69 := Aside0.mk hy69
                 have KA69 := Aside0.mk hA69
                 clear hy69 hA69
                 have KL69 := Aside0.mk (show ((wrap64 (x17_4 + 1)) : Int).toNat ≤ t145.length from by omega)
                 have KM69 := Aside0.mk (show (x17_4 : Int).toNat ≤ ((wrap64 (x17_4 + 1)) : Int).toNat from by omega)
                 replace q69 := eq_true q69
                 go_wp2_with (first | ((with_reducible refine gate_callee (f := 6) rfl ?_); refine goesL_ (some 121) rfl rfl Try.func6 (by kernel_rfl) rfl #[.slice A69 y165.length c69, .int .i64 (wrap64 (1 + (wrap64 (Int.tmod (IntKind.u64.wrap (a1)) 8))))] rfl (by (try simp only [List.map_toArray, List.map_cons, List.map_nil]); first | done | rfl | (simp only [List.length_drop, List.length_take]; rfl)) ?_; (with_reducible refine (scan_Assign.calls k4 _ _ y165 (wrap64 (1 + (wrap64 (Int.tmod (IntKind.u64.wrap (a1)) 8)))) t169 t170 (some q174) _ ?side1 ?side2 A45.out).mono ?_); (case side1 => repeat (first | exact (by repeat (first | (with_reducible exact HR168.out) | (with_reducible refine Kd.C_alloc ?_ _) | (with_reducible refine Kd.C_drewN ?_ _) | (with_reducible refine Kd.C_drew ?_) | exact HR168.out)) | (with_reducible refine Kd.C_alloc ?_ _) | (with_reducible refine Kd.C_drewN ?_ _) | (with_reducible refine Kd.C_drew ?_))); (case side2 => exact HC168.out); rintro e w70 ⟨v172, rfl, ho0, hb⟩; refine ⟨_, rfl, ?_⟩; have n0_ := Aside0.mk (Kd.S_below (by (with_reducible repeat (first | apply Kd.S_alloc | apply Kd.S_drewN | apply Kd.S_drew)); exact HO_6.out) hb); have n1_ := Aside0.mk (Kd.R_elder' (by (with_reducible repeat (first | apply Kd.R_alloc | apply Kd.R_drewN | apply Kd.R_drew)); exact HO_7.out) (Kd.R_base ho0) hb); have n2_ := Aside0.mk (Kd.R_lower (Kd.R_new' ho0 (Kd.R_lt (by (with_reducible repeat (first | apply Kd.R_alloc | apply Kd.R_drewN | apply Kd.R_drew)); exact HO_7.out))) (below_size (by repeat (first | (with_reducible first | exact HB.out | apply below_alloc | apply pw_below_drewN | apply below_drew1) | exact HB.out)))); have n3_ := Aside0.mk (Kd.C_below (by repeat (first | (with_reducible exact HR168.out) | (with_reducible refine Kd.C_alloc ?_ _) | (with_reducible refine Kd.C_drewN ?_ _) | (with_reducible refine Kd.C_drew ?_) | exact HR168.out)) hb); have n4_ := Aside0.mk (below_step (by repeat (first | (with_reducible first | exact HB.out | apply below_alloc | apply pw_below_drewN | apply below_drew1) | exact HB.out)) hb); clear HO_6; clear HO_7; clear HR168; clear HB; have HO_6 := n0_; have HO_7 := n1_; have HO173 := n2_; have HR168 := n3_; have HB := n4_; clear n0_ n1_ n2_ n3_ n4_; (try clear hb); (try clear hb2); (try clear hk); (try clear hi); (try clear ho0); (try simp only [errW_none, errW_some])))
                 go_ret
                 exact ⟨by first | rfl | (simp [errW_none, errW_some] <;> rfl) | (simp [*, errW_none, errW_some] <;> rfl), by repeat (first | (with_reducible first | exact HB.out | apply below_alloc | apply pw_below_drewN | apply below_drew1) | exact HB.out)⟩
               ·rw [if_neg c44] at H
                exact absurd H (by simp)
              ·rw [if_neg c43] at H
               exact absurd H (by simp)
             ·rw [if_neg c42] at H
              exact absurd H (by simp)
            ·rw [if_neg c41] at H
             have c41b0 : decide (x17_4 < (l0.length : Int)) = false := decide_eq_false c41
             clear c41
             replace H := Option.bind_eq_some_iff.mp H
             obtain ⟨t178, A710, H⟩ := H
             replace H : (if t178.isNone = true then ((mandrellaw19_sure.f).bind fun t180 => (some t180)) else (some false)) = some r := H
             have A71 := Aside0.mk A710
             clear A710
             rcases t178 with _ | q179
             ·have H1 : ((mandrellaw19_sure.f).bind fun t180 => (some t180)) = some r := by rw [if_pos (show (none : Option Int).isNone = true by rfl)] at H; exact H
              clear H
              have H := H1
              clear H1
              try simp only [errW_none, errW_some]
              replace H := Option.bind_eq_some_iff.mp H
              obtain ⟨t180, A720, H⟩ := H
              replace H : (some t180) = some r := H
              have A72 := Aside0.mk A720
              clear A720
              obtain rfl := Option.some.inj H
              go_wp2_with (first | ((with_reducible refine gate_callee (f := 13) rfl ?_); refine goesL_ (some 161) rfl rfl Try.func13 (by kernel_rfl) rfl #[.slice Ao16 t145.length co16, .int .i64 (wrap64 (1 + (wrap64 (Int.tmod (IntKind.u64.wrap (a1)) 8)))), .slice Ao40 t148.length co40] rfl (by (try simp only [List.map_toArray, List.map_cons, List.map_nil]); first | done | rfl | (simp only [List.length_drop, List.length_take]; rfl)) ?_; (with_reducible refine (scan_Check.calls k4 _ _ t145 (wrap64 (1 + (wrap64 (Int.tmod (IntKind.u64.wrap (a1)) 8)))) _ _ t148 none _ ?side1 ?side2 ?side3 ?side4 A71.out).mono ?_); (case side1 => repeat (first | exact (Kd.S_reads' HO_6.out).2.2 | (with_reducible refine Kd.C_alloc ?_ _) | (with_reducible refine Kd.C_drewN ?_ _) | (with_reducible refine Kd.C_drew ?_))); (case side2 => exact (Kd.S_reads' HO_6.out).2.1); (case side3 => repeat (first | exact (Kd.R_reads' HO_7.out).2.2 | (with_reducible refine Kd.C_alloc ?_ _) | (with_reducible refine Kd.C_drewN ?_ _) | (with_reducible refine Kd.C_drew ?_))); (case side4 => exact (Kd.R_reads' HO_7.out).2.1); rintro e w73 ⟨rfl, hb⟩; refine ⟨_, rfl, ?_⟩; have n0_ := Aside0.mk (Kd.S_below (by (with_reducible repeat (first | apply Kd.S_alloc | apply Kd.S_drewN | apply Kd.S_drew)); exact HO_6.out) hb); have n1_ := Aside0.mk (Kd.R_below (by (with_reducible repeat (first | apply Kd.R_alloc | apply Kd.R_drewN | apply Kd.R_drew)); exact HO_7.out) hb); have n2_ := Aside0.mk (below_step (by repeat (first | (with_reducible first | exact HB.out | apply below_alloc | apply pw_below_drewN | apply below_drew1) | exact HB.out)) hb); clear HO_6; clear HO_7; clear HB; have HO_6 := n0_; have HO_7 := n1_; have HB := n2_; clear n0_ n1_ n2_; (try clear hb); (try clear hb2); (try clear hk); (try clear hi); (try simp only [errW_none, errW_some])) | (go_at_call 8; (with_reducible refine (mandrellaw19_sure.calls  t180 _ A72.out).mono ?_); rintro e w74 ⟨rfl, hb⟩; have n0_ := Aside0.mk (Kd.S_below (by (with_reducible repeat (first | apply Kd.S_alloc | apply Kd.S_drewN | apply Kd.S_drew)); exact HO_6.out) hb); have n1_ := Aside0.mk (Kd.R_below (by (with_reducible repeat (first | apply Kd.R_alloc | apply Kd.R_drewN | apply Kd.R_drew)); exact HO_7.out) hb); have n2_ := Aside0.mk (below_step (by repeat (first | (with_reducible first | exact HB.out | apply below_alloc | apply pw_below_drewN | apply below_drew1) | exact HB.out)) hb); clear HO_6; clear HO_7; clear HB; have HO_6 := n0_; have HO_7 := n1_; have HB := n2_; clear n0_ n1_ n2_; (try clear hb); (try clear hb2); (try clear hk); (try clear hi)))
              go_ret
              exact ⟨by first | rfl | (simp [errW_none, errW_some] <;> rfl) | (simp [*, errW_none, errW_some] <;> rfl), by repeat (first | (with_reducible first | exact HB.out | apply below_alloc | apply pw_below_drewN | apply below_drew1) | exact HB.out)⟩
             ·have H1 : (some false) = some r := by rw [if_neg (show ¬ (some q179).isNone = true by simp)] at H; exact H
              clear H
              have H := H1
              clear H1
              try simp only [errW_none, errW_some]
              obtain rfl := Option.some.inj H
              go_wp2_with (first | ((with_reducible refine gate_callee (f := 13) rfl ?_); refine goesL_ (some 161) rfl rfl Try.func13 (by kernel_rfl) rfl #[.slice Ao16 t145.length co16, .int .i64 (wrap64 (1 + (wrap64 (Int.tmod (IntKind.u64.wrap (a1)) 8)))), .slice Ao40 t148.length co40] rfl (by (try simp only [List.map_toArray, List.map_cons, List.map_nil]); first | done | rfl | (simp only [List.length_drop, List.length_take]; rfl)) ?_; (with_reducible refine (scan_Check.calls k4 _ _ t145 (wrap64 (1 + (wrap64 (Int.tmod (IntKind.u64.wrap (a1)) 8)))) _ _ t148 (some q179) _ ?side1 ?side2 ?side3 ?side4 A71.out).mono ?_); (case side1 => repeat (first | exact (Kd.S_reads' HO_6.out).2.2 | (with_reducible refine Kd.C_alloc ?_ _) | (with_reducible refine Kd.C_drewN ?_ _) | (with_reducible refine Kd.C_drew ?_))); (case side2 => exact (Kd.S_reads' HO_6.out).2.1); (case side3 => repeat (first | exact (Kd.R_reads' HO_7.out).2.2 | (with_reducible refine Kd.C_alloc ?_ _) | (with_reducible refine Kd.C_drewN ?_ _) | (with_reducible refine Kd.C_drew ?_))); (case side4 => exact (Kd.R_reads' HO_7.out).2.1); rintro e w75 ⟨rfl, hb⟩; refine ⟨_, rfl, ?_⟩; have n0_ := Aside0.mk (Kd.S_below (by (with_reducible repeat (first | apply Kd.S_alloc | apply Kd.S_drewN | apply Kd.S_drew)); exact HO_6.out) hb); have n1_ := Aside0.mk (Kd.R_below (by (with_reducible repeat (first | apply Kd.R_alloc | apply Kd.R_drewN | apply Kd.R_drew)); exact HO_7.out) hb); have n2_ := Aside0.mk (below_step (by repeat (first | (with_reducible first | exact HB.out | apply below_alloc | apply pw_below_drewN | apply below_drew1) | exact HB.out)) hb); clear HO_6; clear HO_7; clear HB; have HO_6 := n0_; have HO_7 := n1_; have HB := n2_; clear n0_ n1_ n2_; (try clear hb); (try clear hb2); (try clear hk); (try clear hi); (try simp only [errW_none, errW_some])))
              go_ret
              exact ⟨by first | rfl | (simp [errW_none, errW_some] <;> rfl) | (simp [*, errW_none, errW_some] <;> rfl), by repeat (first | (with_reducible first | exact HB.out | apply below_alloc | apply pw_below_drewN | apply below_drew1) | exact HB.out)⟩

end Go.Proofs.Ytolhijnkgkfjgaa.XC
