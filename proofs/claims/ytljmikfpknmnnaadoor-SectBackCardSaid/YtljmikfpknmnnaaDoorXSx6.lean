/- Functions of the Go program as Lean functions, and the proofs that the Go code answers as they do. Written by a program of this session. -/
import Derived.Test.YtljmikfpknmnnaaDoorXSx0
import Derived.Test.YtljmikfpknmnnaaDoorXSx1
import Derived.Test.YtljmikfpknmnnaaDoorXSx2
import Derived.Test.YtljmikfpknmnnaaDoorXSx5
import Derived.Lib.OthersKept
-- slim
namespace Go.Proofs.YtljmikfpknmnnaaDoor.XS
open Go.RowKit Go.Proofs.YtljmikfpknmnnaaDoorW.PrintWords Go.Proofs.YtljmikfpknmnnaaDoorW.PrintLast Go.Proofs.YtljmikfpknmnnaaDoorW.PrintMore
attribute [local go_sem] max2_int min2_int max_two min_two max_three min_three max_four min_four   -- for this text's walks alone
set_option linter.unusedVariables false
set_option linter.unusedSimpArgs false

/-! ### sect_Split: function 18 -/
/-- Where bytes part from the head, and how: told from the first byte on. -/
def hdErr : List Int → List Int → Int → Option (Int × Int)
 | [], _, _ => none
 | _ :: _, [], i => some (i, 4)
 | h :: hs, x :: xs, i => if x = h then hdErr hs xs (i + 1) else some (i, 6)
theorem head_size : ({ data := #[0, 97, 115, 109, 1, 0, 0, 0] } : ByteArray).size = 8 := by decide
theorem head_small : ∀ i : Fin 8, (({ data := #[0, 97, 115, 109, 1, 0, 0, 0] } : ByteArray)[i.val]'(by rw [head_size]; exact i.isLt)).toNat < 128 := by decide
theorem head_at : ∀ i : Fin 8, ((({ data := #[0, 97, 115, 109, 1, 0, 0, 0] } : ByteArray)[i.val]'(by rw [head_size]; exact i.isLt)).toNat : Int) = ([0, 97, 115, 109, 1, 0, 0, 0] : List Int).getD i.val 0 := by decide
mutual
def sect_Split.l0 : Nat → List Int → List (S53) → Int → Int → Option ((List (S53)) × Int × Option Int)
 | 0, _, _, _, _ => none
 | k + 1, x0, x6, x7, x8 => if x8 < (x0.length : Int) then (if 0 ≤ x8 then (if (rd x0 x8) > 11 then (sect_Split.j1 k x0 x6 x7 x8 (rd x0 x8) true) else (if (rd x0 x8) > 0 then (sect_Split.j1 k x0 x6 x7 x8 (rd x0 x8) (decide ((rd x0 x8) ≤ x7))) else (sect_Split.j1 k x0 x6 x7 x8 (rd x0 x8) false))) else (none)) else (some (x6, (x0.length : Int), none))
def sect_Split.j1 : Nat → List Int → List (S53) → Int → Int → Int → Bool → Option ((List (S53)) × Int × Option Int)
 | 0, _, _, _, _, _, _ => none
 | k + 1, x0, x6, x7, x8, x9, x54 => if x54 = true then (some (([] : List (S53)), x8, some 6)) else (if 0 ≤ (wrap64 (x8 + 1)) then (if (wrap64 (x8 + 1)) ≤ (x0.length : Int) then ((leb_TakeU.f k (x0.drop ((wrap64 (x8 + 1)) : Int).toNat) 32).bind fun bt243 => (if bt243.2.2.isNone = true then (if bt243.1 > (IntKind.u64.wrap (wrap64 ((x0.length : Int) - (wrap64 ((wrap64 (x8 + 1)) + bt243.2.1))))) then (some (([] : List (S53)), wrap64 (x8 + 1), some 4)) else (if 0 ≤ (wrap64 ((wrap64 (x8 + 1)) + bt243.2.1)) then (if (wrap64 ((wrap64 (x8 + 1)) + bt243.2.1)) ≤ (wrap64 ((wrap64 ((wrap64 (x8 + 1)) + bt243.2.1)) + (wrap64 (bt243.1)))) then (if (wrap64 ((wrap64 ((wrap64 (x8 + 1)) + bt243.2.1)) + (wrap64 (bt243.1)))) ≤ (x0.length : Int) then ((slices_Clone_byte_byte.f ((x0.take ((wrap64 ((wrap64 ((wrap64 (x8 + 1)) + bt243.2.1)) + (wrap64 (bt243.1)))) : Int).toNat).drop ((wrap64 ((wrap64 (x8 + 1)) + bt243.2.1)) : Int).toNat)).bind fun t248 => (if x9 = 0 then ((sect_name.f k x9 (wrap64 ((wrap64 (x8 + 1)) + bt243.2.1)) t248).bind fun bt252 => (if bt252.2.isNone = true then (if x6.length < 3518437208883 then (sect_Split.l0 k x0 (x6 ++ [(⟨x9, wrap64 ((wrap64 (x8 + 1)) + bt243.2.1), t248⟩ : S53)]) (mx x7 x9) (wrap64 ((wrap64 ((wrap64 (x8 + 1)) + bt243.2.1)) + (wrap64 (bt243.1))))) else (none)) else (some (([] : List (S53)), bt252.1, some (bt252.2.getD 0))))) else (if x6.length < 3518437208883 then (sect_Split.l0 k x0 (x6 ++ [(⟨x9, wrap64 ((wrap64 (x8 + 1)) + bt243.2.1), t248⟩ : S53)]) (mx x7 x9) (wrap64 ((wrap64 ((wrap64 (x8 + 1)) + bt243.2.1)) + (wrap64 (bt243.1))))) else (none)))) else (none)) else (none)) else (none))) else (some (([] : List (S53)), wrap64 (x8 + 1), some (bt243.2.2.getD 0))))) else (none)) else (none))
end
def sect_Split.f (k : Nat) (l0 : List Int) : Option ((List (S53)) × Int × Option Int) := if (hdErr [0, 97, 115, 109, 1, 0, 0, 0] l0 0).isSome = true then (some (([] : List (S53)), ((hdErr [0, 97, 115, 109, 1, 0, 0, 0] l0 0).getD (0, 0)).1, some ((hdErr [0, 97, 115, 109, 1, 0, 0, 0] l0 0).getD (0, 0)).2)) else (sect_Split.l0 k l0 ([] : List (S53)) 0 8)
theorem sect_Split.mono_l : ∀ k, (∀ y0 y1 y2 y3, LeO (sect_Split.l0 k y0 y1 y2 y3) (sect_Split.l0 (k + 1) y0 y1 y2 y3)) ∧ (∀ y0 y1 y2 y3 y4 y5, LeO (sect_Split.j1 k y0 y1 y2 y3 y4 y5) (sect_Split.j1 (k + 1) y0 y1 y2 y3 y4 y5))
 | 0 => ⟨fun _ _ _ _ r h => by simp [sect_Split.l0] at h, fun _ _ _ _ _ _ r h => by simp [sect_Split.j1] at h⟩
 | k + 1 => by
  obtain ⟨ih0, ih1⟩ := sect_Split.mono_l k
  refine ⟨?_, ?_⟩
  ·intro y0 y1 y2 y3
   unfold sect_Split.l0
   repeat' first
   | (with_reducible exact ih0 _ _ _ _)
   | (with_reducible exact ih1 _ _ _ _ _ _)
   | (with_reducible exact leb_TakeU.mono _ _ _)
   | (with_reducible exact sect_name.mono _ _ _ _)
   | (with_reducible exact LeO.refl _)
   | (with_reducible exact LeO.none _)
   | (with_reducible refine LeO.ite ?_ ?_)
   | (with_reducible refine LeO.bind ?_ (fun _ => ?_))
   | exact ih0 _ _ _ _
   | exact ih1 _ _ _ _ _ _
   | exact leb_TakeU.mono _ _ _
   | exact sect_name.mono _ _ _ _
   | exact LeO.none _
   | refine LeO.ite ?_ ?_
   | refine LeO.bind ?_ (fun _ => ?_)
  ·intro y0 y1 y2 y3 y4 y5
   unfold sect_Split.j1
   repeat' first
   | (with_reducible exact ih0 _ _ _ _)
   | (with_reducible exact ih1 _ _ _ _ _ _)
   | (with_reducible exact leb_TakeU.mono _ _ _)
   | (with_reducible exact sect_name.mono _ _ _ _)
   | (with_reducible exact LeO.refl _)
   | (with_reducible exact LeO.none _)
   | (with_reducible refine LeO.ite ?_ ?_)
   | (with_reducible refine LeO.bind ?_ (fun _ => ?_))
   | exact ih0 _ _ _ _
   | exact ih1 _ _ _ _ _ _
   | exact leb_TakeU.mono _ _ _
   | exact sect_name.mono _ _ _ _
   | exact LeO.none _
   | refine LeO.ite ?_ ?_
   | refine LeO.bind ?_ (fun _ => ?_)
theorem sect_Split.mono : ∀ a0 k, LeO (sect_Split.f k a0) (sect_Split.f (k + 1) a0) := by
 intro a0 k
 obtain ⟨ih0, ih1⟩ := sect_Split.mono_l k
 unfold sect_Split.f
 repeat' first
   | (with_reducible exact ih0 _ _ _ _)
   | (with_reducible exact ih1 _ _ _ _ _ _)
   | (with_reducible exact leb_TakeU.mono _ _ _)
   | (with_reducible exact sect_name.mono _ _ _ _)
   | (with_reducible exact LeO.refl _)
   | (with_reducible exact LeO.none _)
   | (with_reducible refine LeO.ite ?_ ?_)
   | (with_reducible refine LeO.bind ?_ (fun _ => ?_))
   | exact ih0 _ _ _ _
   | exact ih1 _ _ _ _ _ _
   | exact leb_TakeU.mono _ _ _
   | exact sect_name.mono _ _ _ _
   | exact LeO.none _
   | refine LeO.ite ?_ ?_
   | refine LeO.bind ?_ (fun _ => ?_)
set_option maxHeartbeats 8000000 in
set_option maxRecDepth 100000 in
theorem sect_Split.calls (k : Nat) (A0 : Option Addr) (c0 : Nat) (l0 : List Int) (r1 : List (S53)) (r2 : Int) (r3 : Option Int) (w : World) (hr0 : Kd.C (Kd.int .u8) w A0 l0.length l0) (hc0 : l0.length ≤ c0) (h : sect_Split.f k l0 = some (r1, r2, r3)) :
  Calls Tryd.prog 18 #[.slice A0 l0.length c0] w fun e w' => ∃ v0_ : Value, e = .returned (.tuple #[v0_, .int .i64 r2, errW r3]) ∧ Kd.S k53 53 w' w.heap.size (fun _ => True) v0_ r1 ∧ Below w.heap.size w w' := by
 have hu53 := Tryd.underlying53
 have hu25 := Tryd.underlying25
 have hu66 := Tryd.underlying66
 have HR0 := Aside0.mk hr0
 have HC0 := Aside0.mk hc0
 clear hr0 hc0
 have HB := Aside0.mk (Below.refl w.heap.size w)
 have HH := Aside0.mk h
 clear h
 go_enter Tryd.func18, Tryd.ntmps18
 go_wp2
 go_loopg [5] 8 (fun kq v5 w' => ∃ i : Nat, Aside0 (i + kq = 8) ∧ Aside0 (w'.heap[w.heap.size]? = some (.stringIter ({ data := #[0, 97, 115, 109, 1, 0, 0, 0] } : ByteArray) i)) ∧ Aside0 (Below w.heap.size w w') ∧ Aside0 (i ≤ l0.length) ∧ Aside0 (hdErr (([0, 97, 115, 109, 1, 0, 0, 0] : List Int).drop i) (l0.drop i) i = hdErr [0, 97, 115, 109, 1, 0, 0, 0] l0 0))
 case atStart => exact ⟨0, ⟨rfl⟩, ⟨heap_alloc_new w _⟩, ⟨below_alloc (Below.refl _ _) _⟩, ⟨Nat.zero_le _⟩, ⟨rfl⟩⟩
 case round =>
  obtain ⟨i, HKI, HIT, HB, HLE, HE⟩ := hrel
  cases gk with
  | zero =>
   obtain rfl : i = 8 := by have := HKI.out; omega
   have hn : hdErr [0, 97, 115, 109, 1, 0, 0, 0] l0 0 = none := by rw [← HE.out]; rfl
   have H' : Aside0 ((sect_Split.l0 k l0 ([] : List (S53)) 0 8) = some (r1, r2, r3)) := ⟨by have h := HH.out; unfold sect_Split.f at h; rw [hn] at h; exact h⟩
   have hnx := fun ty => Lib.run_next_end_at (P := Tryd.prog) wr w.heap.size ({ data := #[0, 97, 115, 109, 1, 0, 0, 0] } : ByteArray) 8 ty HIT.out (by decide)
   clear HH hn HE HKI HLE
   go_wp2
   clear hnx
   go_wp2
   go_loopg [6, 7, 8] k (fun kq v6 v7 v8 w' => ∃ (x6_1 : List (S53)) (x7_1 : Int) (x8_1 : Int), v7 = .int .u8 x7_1 ∧ v8 = .int .i64 x8_1 ∧ Aside0 (sect_Split.l0 kq l0 x6_1 x7_1 x8_1 = some (r1, r2, r3)) ∧ Aside0 (kq ≤ k) ∧ Aside0 (Kd.S k53 53 w' w.heap.size (fun _ => True) v6 x6_1) ∧ Aside0 (Below w.heap.size w w'))
   case atStart => exact ⟨(([] : List (S53))), (0), (8), (by first | rfl | (simp; done) | (simp [*]; done)), (by first | rfl | (simp; done) | (simp [*]; done)), H', ⟨Nat.le_refl _⟩, ⟨by first | exact Kd.S_nil _ _ _ _ _ | exact Kd.N_nil _ _ _ _ _ | exact Kd.V_nil _ _ _ _ _ | exact Kd.Q_nil _ _ _ _ _ | exact Kd.R_nil _ _ _ _ _⟩, ⟨by repeat (first | (with_reducible first | exact HB.out | apply below_alloc | apply pw_below_drewN | apply below_drew1) | exact HB.out)⟩⟩
   case round =>
    clear H'
    try clear c1
    obtain ⟨x6_1, x7_1, x8_1, rfl, rfl, HA, HK1, HO_6, HB⟩ := hrel
    cases gk with
    | zero => exact absurd HA.out (by simp [sect_Split.l0])
    | succ k1 =>
     have H := HA.out
     clear HA
     simp only [sect_Split.l0] at H
     by_cases c2 : x8_1 < (l0.length : Int)
     ·rw [if_pos c2] at H
      have c2b0 : decide (x8_1 < (l0.length : Int)) = true := decide_eq_true c2
      clear c2
      by_cases c3 : 0 ≤ x8_1
      ·rw [if_pos c3] at H
       have c3b0 : decide (0 ≤ x8_1) = true := decide_eq_true c3
       clear c3
       have HC4 := Aside0.mk H
       clear H
       have p241 : 0 ≤ (x8_1 : Int) := of_decide_eq_true (by first | (with_reducible assumption) | assumption)
       have q241 : x8_1 < (l0.length : Int) := of_decide_eq_true (by first | (with_reducible assumption) | assumption)
       obtain ⟨ad241, e241, hx241_0⟩ := Kd.at_int HR0.out x8_1 p241 q241
       cases e241
       replace hx241_0 := (HB.out.cell (World.block_lt_of_cell? w _ hx241_0)).trans hx241_0
       replace p241 := eq_true p241
       replace q241 := eq_true q241
       go_upto_region 13 with (fail)
       go_cut [54] (fun v54 wc => ∃ (kq : Nat) (x54_3 : Bool), v54 = .bool x54_3 ∧ Aside0 (sect_Split.j1 kq l0 x6_1 x7_1 x8_1 (rd l0 x8_1) x54_3 = some (r1, r2, r3)) ∧ Aside0 (kq ≤ k1) ∧ Aside0 (Kd.S k53 53 wc w.heap.size (fun _ => True) u6 x6_1) ∧ Aside0 (Below w.heap.size w wc))
       case first =>
        have H := HC4.out
        clear HC4
        by_cases c5 : (rd l0 x8_1) > 11
        ·rw [if_pos c5] at H
         have c5b0 : decide (11 < (rd l0 x8_1)) = true := decide_eq_true c5
         clear c5
         (first | rw [c5b0] | (simp only [i64_w, i32_w]; rw [c5b0]) | skip)
         have H' := Aside0.mk H
         clear H
         go_wp2
         go_meet
         case rel => exact ⟨_, (true), (by first | rfl | (simp; done) | (simp [*]; done)), H', ⟨by have := HK1.out; first | omega | exact Nat.le_refl _⟩, ⟨by (with_reducible repeat (first | apply Kd.S_alloc | apply Kd.S_drewN | apply Kd.S_drew)); exact HO_6.out⟩, ⟨by repeat (first | (with_reducible first | exact HB.out | apply below_alloc | apply pw_below_drewN | apply below_drew1) | exact HB.out)⟩⟩
        ·rw [if_neg c5] at H
         have c5b0 : decide (11 < (rd l0 x8_1)) = false := decide_eq_false c5
         clear c5
         (first | rw [c5b0] | (simp only [i64_w, i32_w]; rw [c5b0]) | skip)
         by_cases c6 : (rd l0 x8_1) > 0
         ·rw [if_pos c6] at H
          have c6b0 : decide (0 < (rd l0 x8_1)) = true := decide_eq_true c6
          clear c6
          have H' := Aside0.mk H
          clear H
          go_wp2
          go_meet
          case rel => exact ⟨_, (decide ((rd l0 x8_1) ≤ x7_1)), (by first | rfl | (simp; done) | (simp [*]; done)), H', ⟨by have := HK1.out; first | omega | exact Nat.le_refl _⟩, ⟨by (with_reducible repeat (first | apply Kd.S_alloc | apply Kd.S_drewN | apply Kd.S_drew)); exact HO_6.out⟩, ⟨by repeat (first | (with_reducible first | exact HB.out | apply below_alloc | apply pw_below_drewN | apply below_drew1) | exact HB.out)⟩⟩
         ·rw [if_neg c6] at H
          have c6b0 : decide (0 < (rd l0 x8_1)) = false := decide_eq_false c6
          clear c6
          have H' := Aside0.mk H
          clear H
          go_wp2
          go_meet
          case rel => exact ⟨_, (false), (by first | rfl | (simp; done) | (simp [*]; done)), H', ⟨by have := HK1.out; first | omega | exact Nat.le_refl _⟩, ⟨by (with_reducible repeat (first | apply Kd.S_alloc | apply Kd.S_drewN | apply Kd.S_drew)); exact HO_6.out⟩, ⟨by repeat (first | (with_reducible first | exact HB.out | apply below_alloc | apply pw_below_drewN | apply below_drew1) | exact HB.out)⟩⟩
       case rest =>
        clear HC4
        (try clear c1); (try clear c2); (try clear c2b0); (try clear p2); (try clear q2); (try clear hx2); (try clear c3); (try clear c3b0); (try clear c5); (try clear c5b0); (try clear c6); (try clear c6b0); (try clear hx241_0); (try clear p241); (try clear q241)
        obtain ⟨kq, x54_3, rfl, HA, HJ3, HO_6, HB⟩ := hcut
        cases kq with
        | zero => exact absurd HA.out (by simp [sect_Split.j1])
        | succ kj3 =>
         have H := HA.out
         clear HA
         simp only [sect_Split.j1] at H
         by_cases c7 : x54_3 = true
         ·subst c7
          have H1 : (some (([] : List (S53)), x8_1, some 6)) = some (r1, r2, r3) := by rw [if_pos rfl] at H; exact H
          clear H
          have H := H1
          clear H1
          simp only [Option.some.injEq, Prod.mk.injEq] at H
          obtain ⟨rfl, rfl, rfl⟩ := H
          go_wp2
          go_ret3
          exact ⟨_, by first | rfl | (simp [errW_none, errW_some] <;> rfl) | (simp [*, errW_none, errW_some] <;> rfl), by first | exact Kd.S_nil _ _ _ _ _ | exact Kd.N_nil _ _ _ _ _ | exact Kd.V_nil _ _ _ _ _ | exact Kd.Q_nil _ _ _ _ _ | exact Kd.R_nil _ _ _ _ _, by repeat (first | (with_reducible first | exact HB.out | apply below_alloc | apply pw_below_drewN | apply below_drew1) | exact HB.out)⟩
         ·replace c7 := Bool.eq_false_iff.mpr c7
          subst c7
          have H1 : (if 0 ≤ (wrap64 (x8_1 + 1)) then (if (wrap64 (x8_1 + 1)) ≤ (l0.length : Int) then ((leb_TakeU.f kj3 (l0.drop ((wrap64 (x8_1 + 1)) : Int).toNat) 32).bind fun bt243 => (if bt243.2.2.isNone = true then (if bt243.1 > (IntKind.u64.wrap (wrap64 ((l0.length : Int) - (wrap64 ((wrap64 (x8_1 + 1)) + bt243.2.1))))) then (some (([] : List (S53)), wrap64 (x8_1 + 1), some 4)) else (if 0 ≤ (wrap64 ((wrap64 (x8_1 + 1)) + bt243.2.1)) then (if (wrap64 ((wrap64 (x8_1 + 1)) + bt243.2.1)) ≤ (wrap64 ((wrap64 ((wrap64 (x8_1 + 1)) + bt243.2.1)) + (wrap64 (bt243.1)))) then (if (wrap64 ((wrap64 ((wrap64 (x8_1 + 1)) + bt243.2.1)) + (wrap64 (bt243.1)))) ≤ (l0.length : Int) then ((slices_Clone_byte_byte.f ((l0.take ((wrap64 ((wrap64 ((wrap64 (x8_1 + 1)) + bt243.2.1)) + (wrap64 (bt243.1)))) : Int).toNat).drop ((wrap64 ((wrap64 (x8_1 + 1)) + bt243.2.1)) : Int).toNat)).bind fun t248 => (if (rd l0 x8_1) = 0 then ((sect_name.f kj3 (rd l0 x8_1) (wrap64 ((wrap64 (x8_1 + 1)) + bt243.2.1)) t248).bind fun bt252 => (if bt252.2.isNone = true then (if x6_1.length < 3518437208883 then (sect_Split.l0 kj3 l0 (x6_1 ++ [(⟨(rd l0 x8_1), wrap64 ((wrap64 (x8_1 + 1)) + bt243.2.1), t248⟩ : S53)]) (mx x7_1 (rd l0 x8_1)) (wrap64 ((wrap64 ((wrap64 (x8_1 + 1)) + bt243.2.1)) + (wrap64 (bt243.1))))) else (none)) else (some (([] : List (S53)), bt252.1, some (bt252.2.getD 0))))) else (if x6_1.length < 3518437208883 then (sect_Split.l0 kj3 l0 (x6_1 ++ [(⟨(rd l0 x8_1), wrap64 ((wrap64 (x8_1 + 1)) + bt243.2.1), t248⟩ : S53)]) (mx x7_1 (rd l0 x8_1)) (wrap64 ((wrap64 ((wrap64 (x8_1 + 1)) + bt243.2.1)) + (wrap64 (bt243.1))))) else (none)))) else (none)) else (none)) else (none))) else (some (([] : List (S53)), wrap64 (x8_1 + 1), some (bt243.2.2.getD 0))))) else (none)) else (none)) = some (r1, r2, r3) := by rw [if_neg (show ¬ (false = true) by decide)] at H; exact H
          clear H
          have H := H1
          clear H1
          obtain ⟨ji8, hji8⟩ : ∃ j_ : Int, (mx x7_1 (rd l0 x8_1)) = j_ := ⟨_, rfl⟩
          replace H : (if 0 ≤ (wrap64 (x8_1 + 1)) then (if (wrap64 (x8_1 + 1)) ≤ (l0.length : Int) then ((leb_TakeU.f kj3 (l0.drop ((wrap64 (x8_1 + 1)) : Int).toNat) 32).bind fun bt243 => (if bt243.2.2.isNone = true then (if bt243.1 > (IntKind.u64.wrap (wrap64 ((l0.length : Int) - (wrap64 ((wrap64 (x8_1 + 1)) + bt243.2.1))))) then (some (([] : List (S53)), wrap64 (x8_1 + 1), some 4)) else (if 0 ≤ (wrap64 ((wrap64 (x8_1 + 1)) + bt243.2.1)) then (if (wrap64 ((wrap64 (x8_1 + 1)) + bt243.2.1)) ≤ (wrap64 ((wrap64 ((wrap64 (x8_1 + 1)) + bt243.2.1)) + (wrap64 (bt243.1)))) then (if (wrap64 ((wrap64 ((wrap64 (x8_1 + 1)) + bt243.2.1)) + (wrap64 (bt243.1)))) ≤ (l0.length : Int) then ((slices_Clone_byte_byte.f ((l0.take ((wrap64 ((wrap64 ((wrap64 (x8_1 + 1)) + bt243.2.1)) + (wrap64 (bt243.1)))) : Int).toNat).drop ((wrap64 ((wrap64 (x8_1 + 1)) + bt243.2.1)) : Int).toNat)).bind fun t248 => (if (rd l0 x8_1) = 0 then ((sect_name.f kj3 (rd l0 x8_1) (wrap64 ((wrap64 (x8_1 + 1)) + bt243.2.1)) t248).bind fun bt252 => (if bt252.2.isNone = true then (if x6_1.length < 3518437208883 then (sect_Split.l0 kj3 l0 (x6_1 ++ [(⟨(rd l0 x8_1), wrap64 ((wrap64 (x8_1 + 1)) + bt243.2.1), t248⟩ : S53)]) ji8 (wrap64 ((wrap64 ((wrap64 (x8_1 + 1)) + bt243.2.1)) + (wrap64 (bt243.1))))) else (none)) else (some (([] : List (S53)), bt252.1, some (bt252.2.getD 0))))) else (if x6_1.length < 3518437208883 then (sect_Split.l0 kj3 l0 (x6_1 ++ [(⟨(rd l0 x8_1), wrap64 ((wrap64 (x8_1 + 1)) + bt243.2.1), t248⟩ : S53)]) ji8 (wrap64 ((wrap64 ((wrap64 (x8_1 + 1)) + bt243.2.1)) + (wrap64 (bt243.1))))) else (none)))) else (none)) else (none)) else (none))) else (some (([] : List (S53)), wrap64 (x8_1 + 1), some (bt243.2.2.getD 0))))) else (none)) else (none)) = some (r1, r2, r3) := by first | (rw [hji8] at H; exact H) | (simp only [hji8] at H ⊢; exact H)
          have hji8_ : (if x7_1 < (rd l0 x8_1) then (rd l0 x8_1) else x7_1) = ji8 := hji8
          obtain ⟨ji9, hji9⟩ : ∃ j_ : Int, (wrap64 (x8_1 + 1)) = j_ := ⟨_, rfl⟩
          replace H : (if 0 ≤ (ji9) then (if (ji9) ≤ (l0.length : Int) then ((leb_TakeU.f kj3 (l0.drop ((ji9) : Int).toNat) 32).bind fun bt243 => (if bt243.2.2.isNone = true then (if bt243.1 > (IntKind.u64.wrap (wrap64 ((l0.length : Int) - (wrap64 ((ji9) + bt243.2.1))))) then (some (([] : List (S53)), ji9, some 4)) else (if 0 ≤ (wrap64 ((ji9) + bt243.2.1)) then (if (wrap64 ((ji9) + bt243.2.1)) ≤ (wrap64 ((wrap64 ((ji9) + bt243.2.1)) + (wrap64 (bt243.1)))) then (if (wrap64 ((wrap64 ((ji9) + bt243.2.1)) + (wrap64 (bt243.1)))) ≤ (l0.length : Int) then ((slices_Clone_byte_byte.f ((l0.take ((wrap64 ((wrap64 ((ji9) + bt243.2.1)) + (wrap64 (bt243.1)))) : Int).toNat).drop ((wrap64 ((ji9) + bt243.2.1)) : Int).toNat)).bind fun t248 => (if (rd l0 x8_1) = 0 then ((sect_name.f kj3 (rd l0 x8_1) (wrap64 ((ji9) + bt243.2.1)) t248).bind fun bt252 => (if bt252.2.isNone = true then (if x6_1.length < 3518437208883 then (sect_Split.l0 kj3 l0 (x6_1 ++ [(⟨(rd l0 x8_1), wrap64 ((ji9) + bt243.2.1), t248⟩ : S53)]) ji8 (wrap64 ((wrap64 ((ji9) + bt243.2.1)) + (wrap64 (bt243.1))))) else (none)) else (some (([] : List (S53)), bt252.1, some (bt252.2.getD 0))))) else (if x6_1.length < 3518437208883 then (sect_Split.l0 kj3 l0 (x6_1 ++ [(⟨(rd l0 x8_1), wrap64 ((ji9) + bt243.2.1), t248⟩ : S53)]) ji8 (wrap64 ((wrap64 ((ji9) + bt243.2.1)) + (wrap64 (bt243.1))))) else (none)))) else (none)) else (none)) else (none))) else (some (([] : List (S53)), ji9, some (bt243.2.2.getD 0))))) else (none)) else (none)) = some (r1, r2, r3) := by first | (rw [hji9] at H; exact H) | (simp only [hji9] at H ⊢; exact H)
          have hji9w : (IntKind.i64.wrap (x8_1 + 1)) = ji9 := (i64_w _).trans hji9
          by_cases c10 : 0 ≤ (ji9)
          ·rw [if_pos c10] at H
           have c10b0 := eq_true c10
           have c10b1 : decide (0 ≤ (ji9)) = true := decide_eq_true c10
           clear c10
           by_cases c11 : (ji9) ≤ (l0.length : Int)
           ·rw [if_pos c11] at H
            have c11b0 := eq_true c11
            have c11b1 : decide ((ji9) ≤ (l0.length : Int)) = true := decide_eq_true c11
            clear c11
            replace H := Option.bind_eq_some_iff.mp H
            obtain ⟨⟨t243, t244, t245⟩, A120, H⟩ := H
            replace H : (if t245.isNone = true then (if t243 > (IntKind.u64.wrap (wrap64 ((l0.length : Int) - (wrap64 ((ji9) + t244))))) then (some (([] : List (S53)), ji9, some 4)) else (if 0 ≤ (wrap64 ((ji9) + t244)) then (if (wrap64 ((ji9) + t244)) ≤ (wrap64 ((wrap64 ((ji9) + t244)) + (wrap64 (t243)))) then (if (wrap64 ((wrap64 ((ji9) + t244)) + (wrap64 (t243)))) ≤ (l0.length : Int) then ((slices_Clone_byte_byte.f ((l0.take ((wrap64 ((wrap64 ((ji9) + t244)) + (wrap64 (t243)))) : Int).toNat).drop ((wrap64 ((ji9) + t244)) : Int).toNat)).bind fun t248 => (if (rd l0 x8_1) = 0 then ((sect_name.f kj3 (rd l0 x8_1) (wrap64 ((ji9) + t244)) t248).bind fun bt252 => (if bt252.2.isNone = true then (if x6_1.length < 3518437208883 then (sect_Split.l0 kj3 l0 (x6_1 ++ [(⟨(rd l0 x8_1), wrap64 ((ji9) + t244), t248⟩ : S53)]) ji8 (wrap64 ((wrap64 ((ji9) + t244)) + (wrap64 (t243))))) else (none)) else (some (([] : List (S53)), bt252.1, some (bt252.2.getD 0))))) else (if x6_1.length < 3518437208883 then (sect_Split.l0 kj3 l0 (x6_1 ++ [(⟨(rd l0 x8_1), wrap64 ((ji9) + t244), t248⟩ : S53)]) ji8 (wrap64 ((wrap64 ((ji9) + t244)) + (wrap64 (t243))))) else (none)))) else (none)) else (none)) else (none))) else (some (([] : List (S53)), ji9, some (t245.getD 0)))) = some (r1, r2, r3) := H
            have A12 := Aside0.mk A120
            clear A120
            rcases t245 with _ | q246
            ·have H1 : (if t243 > (IntKind.u64.wrap (wrap64 ((l0.length : Int) - (wrap64 ((ji9) + t244))))) then (some (([] : List (S53)), ji9, some 4)) else (if 0 ≤ (wrap64 ((ji9) + t244)) then (if (wrap64 ((ji9) + t244)) ≤ (wrap64 ((wrap64 ((ji9) + t244)) + (wrap64 (t243)))) then (if (wrap64 ((wrap64 ((ji9) + t244)) + (wrap64 (t243)))) ≤ (l0.length : Int) then ((slices_Clone_byte_byte.f ((l0.take ((wrap64 ((wrap64 ((ji9) + t244)) + (wrap64 (t243)))) : Int).toNat).drop ((wrap64 ((ji9) + t244)) : Int).toNat)).bind fun t248 => (if (rd l0 x8_1) = 0 then ((sect_name.f kj3 (rd l0 x8_1) (wrap64 ((ji9) + t244)) t248).bind fun bt252 => (if bt252.2.isNone = true then (if x6_1.length < 3518437208883 then (sect_Split.l0 kj3 l0 (x6_1 ++ [(⟨(rd l0 x8_1), wrap64 ((ji9) + t244), t248⟩ : S53)]) ji8 (wrap64 ((wrap64 ((ji9) + t244)) + (wrap64 (t243))))) else (none)) else (some (([] : List (S53)), bt252.1, some (bt252.2.getD 0))))) else (if x6_1.length < 3518437208883 then (sect_Split.l0 kj3 l0 (x6_1 ++ [(⟨(rd l0 x8_1), wrap64 ((ji9) + t244), t248⟩ : S53)]) ji8 (wrap64 ((wrap64 ((ji9) + t244)) + (wrap64 (t243))))) else (none)))) else (none)) else (none)) else (none))) = some (r1, r2, r3) := by rw [if_pos (show (none : Option Int).isNone = true by rfl)] at H; exact H
             clear H
             have H := H1
             clear H1
             try simp only [errW_none, errW_some]
             by_cases c13 : t243 > (IntKind.u64.wrap (wrap64 ((l0.length : Int) - (wrap64 ((ji9) + t244)))))
             ·rw [if_pos c13] at H
              have c13b0 : decide ((IntKind.u64.wrap (wrap64 ((l0.length : Int) - (wrap64 ((ji9) + t244))))) < t243) = true := decide_eq_true c13
              clear c13
              simp only [Option.some.injEq, Prod.mk.injEq] at H
              obtain ⟨rfl, rfl, rfl⟩ := H
              obtain ⟨i014, hi014, _, hsz14, _⟩ := info_parts info5
              obtain ⟨A14, hcut14, hA14, hC14⟩ := print_drop_of (P := Tryd.prog) (Value.int .u8) 0 22 5 .i64 Tryd.underlying22 hi014 hsz14 (some ad241) c0 l0 (ji9) (of_decide_eq_true (by first | (with_reducible assumption) | assumption)) (of_decide_eq_true (by first | (with_reducible assumption) | assumption)) HC0.out
              have HR242 := Aside0.mk (Kd.C_of_reads (h1 := fun _ => rfl) (hA14 _ (Kd.reads_of_C HR0.out)))
              have HC242 := Aside0.mk hC14
              clear hA14 hC14 hi014 hsz14
              go_wp2_with (first | ((with_reducible refine gate_callee (f := 10) rfl ?_); refine goesL_ (some 65) rfl rfl Tryd.func10 (by kernel_rfl) rfl #[.slice A14 (l0.drop ((ji9) : Int).toNat).length (c0 - (ji9).toNat), .int .i64 32] rfl (by (try simp only [List.map_toArray, List.map_cons, List.map_nil]); first | done | (rw [show (l0.drop ((ji9) : Int).toNat).length = (l0.length - (ji9).toNat) from List.length_drop] <;> rfl) | (simp only [hji9]; rfl) | rfl | (simp only [List.length_drop, List.length_take]; rfl)) ?_; (with_reducible refine (leb_TakeU.calls kj3 _ _ (l0.drop ((ji9) : Int).toNat) 32 t243 t244 none _ ?side1 ?side2 A12.out).mono ?_); (case side1 => repeat (first | exact (Kd.C_below HR242.out HB.out) | (with_reducible refine Kd.C_alloc ?_ _) | (with_reducible refine Kd.C_drewN ?_ _) | (with_reducible refine Kd.C_drew ?_))); (case side2 => exact HC242.out); rintro e w' ⟨rfl, ⟨nd, rfl⟩⟩; refine ⟨_, rfl, ?_⟩; (try simp only [errW_none, errW_some])))
              go_ret3
              exact ⟨_, by first | rfl | (simp [errW_none, errW_some] <;> rfl) | (simp only [← hji8, ← hji9]; first | rfl | (simp [errW_none, errW_some] <;> rfl)) | (simp [*, errW_none, errW_some] <;> rfl), by first | exact Kd.S_nil _ _ _ _ _ | exact Kd.N_nil _ _ _ _ _ | exact Kd.V_nil _ _ _ _ _ | exact Kd.Q_nil _ _ _ _ _ | exact Kd.R_nil _ _ _ _ _, by repeat (first | (with_reducible first | exact HB.out | apply below_alloc | apply pw_below_drewN | apply below_drew1) | exact HB.out)⟩
             ·rw [if_neg c13] at H
              have c13b0 : decide ((IntKind.u64.wrap (wrap64 ((l0.length : Int) - (wrap64 ((ji9) + t244))))) < t243) = false := decide_eq_false c13
              clear c13
              obtain ⟨ji15, hji15⟩ : ∃ j_ : Int, (wrap64 ((ji9) + t244)) = j_ := ⟨_, rfl⟩
              replace H : (if 0 ≤ (ji15) then (if (ji15) ≤ (wrap64 ((ji15) + (wrap64 (t243)))) then (if (wrap64 ((ji15) + (wrap64 (t243)))) ≤ (l0.length : Int) then ((slices_Clone_byte_byte.f ((l0.take ((wrap64 ((ji15) + (wrap64 (t243)))) : Int).toNat).drop ((ji15) : Int).toNat)).bind fun t248 => (if (rd l0 x8_1) = 0 then ((sect_name.f kj3 (rd l0 x8_1) (ji15) t248).bind fun bt252 => (if bt252.2.isNone = true then (if x6_1.length < 3518437208883 then (sect_Split.l0 kj3 l0 (x6_1 ++ [(⟨(rd l0 x8_1), ji15, t248⟩ : S53)]) ji8 (wrap64 ((ji15) + (wrap64 (t243))))) else (none)) else (some (([] : List (S53)), bt252.1, some (bt252.2.getD 0))))) else (if x6_1.length < 3518437208883 then (sect_Split.l0 kj3 l0 (x6_1 ++ [(⟨(rd l0 x8_1), ji15, t248⟩ : S53)]) ji8 (wrap64 ((ji15) + (wrap64 (t243))))) else (none)))) else (none)) else (none)) else (none)) = some (r1, r2, r3) := by first | (rw [hji15] at H; exact H) | (simp only [hji15] at H ⊢; exact H)
              (try rw [hji15] at c13b0)
              (try rw [hji15] at A12)
              have hji15w : (IntKind.i64.wrap ((ji9) + t244)) = ji15 := (i64_w _).trans hji15
              by_cases c16 : 0 ≤ (ji15)
              ·rw [if_pos c16] at H
               have c16b0 := eq_true c16
               have c16b1 : decide (0 ≤ (ji15)) = true := decide_eq_true c16
               clear c16
               by_cases c17 : (ji15) ≤ (wrap64 ((ji15) + (wrap64 (t243))))
               ·rw [if_pos c17] at H
                have c17b0 := eq_true c17
                have c17b1 : decide ((ji15) ≤ (wrap64 ((ji15) + (wrap64 (t243))))) = true := decide_eq_true c17
                by_cases c18 : (wrap64 ((ji15) + (wrap64 (t243)))) ≤ (l0.length : Int)
                ·rw [if_pos c18] at H
                 have c18b0 := eq_true c18
                 have c18b1 : decide ((wrap64 ((ji15) + (wrap64 (t243)))) ≤ (l0.length : Int)) = true := decide_eq_true c18
                 replace H := Option.bind_eq_some_iff.mp H
                 obtain ⟨t248, A190, H⟩ := H
                 replace H : (if (rd l0 x8_1) = 0 then ((sect_name.f kj3 (rd l0 x8_1) (ji15) t248).bind fun bt252 => (if bt252.2.isNone = true then (if x6_1.length < 3518437208883 then (sect_Split.l0 kj3 l0 (x6_1 ++ [(⟨(rd l0 x8_1), ji15, t248⟩ : S53)]) ji8 (wrap64 ((ji15) + (wrap64 (t243))))) else (none)) else (some (([] : List (S53)), bt252.1, some (bt252.2.getD 0))))) else (if x6_1.length < 3518437208883 then (sect_Split.l0 kj3 l0 (x6_1 ++ [(⟨(rd l0 x8_1), ji15, t248⟩ : S53)]) ji8 (wrap64 ((ji15) + (wrap64 (t243))))) else (none))) = some (r1, r2, r3) := H
                 have A19 := Aside0.mk A190
                 clear A190
                 by_cases c20 : (rd l0 x8_1) = 0
                 ·rw [if_pos c20] at H
                  have c20b0 : ((rd l0 x8_1) == 0) = true := beq_iff_eq.mpr c20
                  have c20b1 : ((rd l0 x8_1) != 0) = false := bne_eq_false_iff_eq.mpr c20
                  clear c20
                  replace H := Option.bind_eq_some_iff.mp H
                  obtain ⟨⟨t252, t253⟩, A210, H⟩ := H
                  replace H : (if t253.isNone = true then (if x6_1.length < 3518437208883 then (sect_Split.l0 kj3 l0 (x6_1 ++ [(⟨(rd l0 x8_1), ji15, t248⟩ : S53)]) ji8 (wrap64 ((ji15) + (wrap64 (t243))))) else (none)) else (some (([] : List (S53)), t252, some (t253.getD 0)))) = some (r1, r2, r3) := H
                  have A21 := Aside0.mk A210
                  clear A210
                  rcases t253 with _ | q254
                  ·have H1 : (if x6_1.length < 3518437208883 then (sect_Split.l0 kj3 l0 (x6_1 ++ [(⟨(rd l0 x8_1), ji15, t248⟩ : S53)]) ji8 (wrap64 ((ji15) + (wrap64 (t243))))) else (none)) = some (r1, r2, r3) := by rw [if_pos (show (none : Option Int).isNone = true by rfl)] at H; exact H
                   clear H
                   have H := H1
                   clear H1
                   try simp only [errW_none, errW_some]
                   by_cases c22 : x6_1.length < 3518437208883
                   ·rw [if_pos c22] at H
                    have LMc22 := Aside0.mk c22
                    clear c22
                    obtain ⟨y255, hy255⟩ : ∃ y_ : List (S53), y_ = (x6_1 ++ [(⟨(rd l0 x8_1), ji15, t248⟩ : S53)]) := ⟨_, rfl⟩
                    replace H : (sect_Split.l0 kj3 l0 y255 ji8 (wrap64 ((ji15) + (wrap64 (t243))))) = some (r1, r2, r3) := by first | (rw [hy255]; with_reducible exact H) | (have H2_ := (Option.bind_some _ _).symm.trans H; rw [hy255]; with_reducible exact H2_) | (have H2_ := (Option.bind_some _ _).symm.trans H; with_reducible exact H2_) | with_reducible exact H | (rw [hy255]; exact H) | exact H
                    have Ny255 := Aside0.mk hy255
                    clear hy255
                    have H' := Aside0.mk H
                    clear H
                    obtain ⟨i023, hi023, _, hsz23, _⟩ := info_parts info5
                    obtain ⟨A23, hcut23, hA23, hC23⟩ := print_drop_of (P := Tryd.prog) (Value.int .u8) 0 22 5 .i64 Tryd.underlying22 hi023 hsz23 (some ad241) c0 l0 (ji9) (of_decide_eq_true (by first | (with_reducible assumption) | assumption)) (of_decide_eq_true (by first | (with_reducible assumption) | assumption)) HC0.out
                    have HR242 := Aside0.mk (Kd.C_of_reads (h1 := fun _ => rfl) (hA23 _ (Kd.reads_of_C HR0.out)))
                    have HC242 := Aside0.mk hC23
                    clear hA23 hC23 hi023 hsz23
                    go_wp2_with (first | ((with_reducible refine gate_callee (f := 10) rfl ?_); refine goesL_ (some 65) rfl rfl Tryd.func10 (by kernel_rfl) rfl #[.slice A23 (l0.drop ((ji9) : Int).toNat).length (c0 - (ji9).toNat), .int .i64 32] rfl (by (try simp only [List.map_toArray, List.map_cons, List.map_nil]); first | done | (rw [show (l0.drop ((ji9) : Int).toNat).length = (l0.length - (ji9).toNat) from List.length_drop] <;> rfl) | (simp only [hji9]; rfl) | rfl | (simp only [List.length_drop, List.length_take]; rfl)) ?_; (with_reducible refine (leb_TakeU.calls kj3 _ _ (l0.drop ((ji9) : Int).toNat) 32 t243 t244 none _ ?side1 ?side2 A12.out).mono ?_); (case side1 => repeat (first | exact (Kd.C_below HR242.out HB.out) | (with_reducible refine Kd.C_alloc ?_ _) | (with_reducible refine Kd.C_drewN ?_ _) | (with_reducible refine Kd.C_drew ?_))); (case side2 => exact HC242.out); rintro e w' ⟨rfl, ⟨nd, rfl⟩⟩; refine ⟨_, rfl, ?_⟩; (try simp only [errW_none, errW_some]); (try (rw [drewN_self wc]; generalize hq_ : World.drewN wc _ = wc; have n0_ : Aside0 (Kd.S k53 53 wc w.heap.size (fun _ => True) u6 x6_1) := ⟨by rw [← hq_]; exact (by (with_reducible repeat (first | apply Kd.S_alloc | apply Kd.S_drewN | apply Kd.S_drew)); exact HO_6.out)⟩; have n1_ : Aside0 (Below w.heap.size w wc) := ⟨by rw [← hq_]; exact (by repeat (first | (with_reducible first | exact HB.out | apply below_alloc | apply pw_below_drewN | apply below_drew1) | exact HB.out))⟩; clear HO_6 HB hq_; have HO_6 := n0_; have HB := n1_; clear n0_ n1_)); obtain ⟨i024, hi024, _, hsz24, _⟩ := info_parts info5; obtain ⟨A24, hcut24, hA24, hC24⟩ := print_mid_of (P := Tryd.prog) (Value.int .u8) 0 22 5 .i64 .i64 Tryd.underlying22 hi024 hsz24 (some ad241) c0 l0 (ji15) (wrap64 ((ji15) + (wrap64 (t243)))) (of_decide_eq_true (by first | (with_reducible assumption) | assumption)) (by first | omega | exact of_decide_eq_true (by first | (with_reducible assumption) | assumption)) (of_decide_eq_true (by first | (with_reducible assumption) | assumption)) HC0.out; have HR247 := Aside0.mk (Kd.C_of_reads (h1 := fun _ => rfl) (hA24 _ (Kd.reads_of_C HR0.out))); have HC247 := Aside0.mk hC24; clear hA24 hC24 hi024 hsz24) | ((with_reducible refine gate_callee (f := 36) rfl ?_); refine goesL_ (some 97) rfl rfl Tryd.func36 (by kernel_rfl) rfl #[.slice A24 ((l0.take ((wrap64 ((ji15) + (wrap64 (t243)))) : Int).toNat).drop ((ji15) : Int).toNat).length (c0 - (ji15).toNat)] rfl (by (try simp only [List.map_toArray, List.map_cons, List.map_nil]); first | done | (rw [show ((l0.take ((wrap64 ((ji15) + (wrap64 (t243)))) : Int).toNat).drop ((ji15) : Int).toNat).length = ((wrap64 ((ji15) + (wrap64 (t243)))).toNat - (ji15).toNat) from (by rw [List.length_drop, List.length_take]; have h_ : ((wrap64 ((ji15) + (wrap64 (t243)))) : Int) ≤ (l0.length : Int) := of_decide_eq_true (by first | (with_reducible assumption) | assumption); omega)] <;> rfl) | (simp only [hji15]; rfl) | rfl | (simp only [List.length_drop, List.length_take]; rfl)) ?_; (with_reducible refine (slices_Clone_byte_byte.calls _ _ ((l0.take ((wrap64 ((ji15) + (wrap64 (t243)))) : Int).toNat).drop ((ji15) : Int).toNat) t248 _ ?side1 ?side2 A19.out).mono ?_); (case side1 => repeat (first | exact (Kd.C_below HR247.out HB.out) | (with_reducible refine Kd.C_alloc ?_ _) | (with_reducible refine Kd.C_drewN ?_ _) | (with_reducible refine Kd.C_drew ?_))); (case side2 => exact HC247.out); rintro e w25 ⟨v249, rfl, ho0, hb⟩; refine ⟨_, rfl, ?_⟩; have n0_ := Aside0.mk (Kd.S_elder' (by (with_reducible repeat (first | apply Kd.S_alloc | apply Kd.S_drewN | apply Kd.S_drew)); exact HO_6.out) (Kd.R_base ho0) hb); have n1_ := Aside0.mk (Kd.R_lower ho0 (below_size (by repeat (first | (with_reducible first | exact HB.out | apply below_alloc | apply pw_below_drewN | apply below_drew1) | exact HB.out)))); have n2_ := Aside0.mk (below_step (by repeat (first | (with_reducible first | exact HB.out | apply below_alloc | apply pw_below_drewN | apply below_drew1) | exact HB.out)) hb); clear HO_6; clear HB; have HO_6 := n0_; have HO250 := n1_; have HB := n2_; clear n0_ n1_ n2_; (try clear hb); (try clear hb2); (try clear hk); (try clear hi); (try clear ho0); obtain ⟨Ao26, co26, eo26⟩ := Kd.R_slice HO250.out; subst eo26) | ((with_reducible refine gate_dst (N := 14) rfl ?_); refine box_event ?hg (N := 14) ?hd (cs := #[.int .u8 0, .int .i64 0, .slice none 0 0]) (t := 53) ?hr ?_; (case hd => rfl); (case hg => rfl); (case hr => first | (go_simp; done) | (go_simp; rfl)); intro gb251 hg w27 hbox hb; have n0_ := Aside0.mk (Kd.S_below (Kd.S_elderB (by (with_reducible repeat (first | apply Kd.S_alloc | apply Kd.S_drewN | apply Kd.S_drew)); exact HO_6.out) gb251 (Nat.le_of_eq hg.symm)) hb); have n1_ := Aside0.mk (Kd.R_below (by (with_reducible repeat (first | apply Kd.R_alloc | apply Kd.R_drewN | apply Kd.R_drew)); exact HO250.out) hb); have n2_ := Aside0.mk (below_step (by repeat (first | (with_reducible first | exact HB.out | apply below_alloc | apply pw_below_drewN | apply below_drew1) | exact HB.out)) hb); have n3_ := Aside0.mk (hbox); have n4_ := Aside0.mk ((by rw [hg]; exact (below_size (by repeat (first | (with_reducible first | exact HB.out | apply below_alloc | apply pw_below_drewN | apply below_drew1) | exact HB.out))) : w.heap.size ≤ gb251)); have n5_ := Aside0.mk ((by rw [hg]; exact (below_size (by repeat (first | (with_reducible first | exact HB.out | apply below_alloc | apply pw_below_drewN | apply below_drew1) | exact HB.out))) : w.heap.size ≤ gb251)); clear HO_6; clear HO250; clear HB; have HO_6 := n0_; have HO250 := n1_; have HB := n2_; have BK251 := n3_; have GW251 := n4_; have GE251 := n5_; clear n0_ n1_ n2_ n3_ n4_ n5_; clear hb hbox hg; have hcz28_0 : w27.cell? ⟨gb251, 0, none⟩ = some (.int .u8 0) := (blk_cell BK251.out 0).trans rfl; have hcz28_1 : w27.cell? ⟨gb251, 1, none⟩ = some (.int .i64 0) := (blk_cell BK251.out 1).trans rfl; have hcz28_2 : w27.cell? ⟨gb251, 2, none⟩ = some (.slice none 0 0) := (blk_cell BK251.out 2).trans rfl; have hfz28_0 := blk_frozen BK251.out 0; have hfz28_1 := blk_frozen BK251.out 1; have hfz28_2 := blk_frozen BK251.out 2) | ((with_reducible refine gate_callee (f := 37) rfl ?_); refine goesL_ (some 103) rfl rfl Tryd.func37 (by kernel_rfl) rfl #[.agg #[.int .u8 (rd l0 x8_1), .int .i64 ji15, .slice Ao26 t248.length co26]] rfl (by (try simp only [List.map_toArray, List.map_cons, List.map_nil]); first | done | (simp only [hji15]; rfl) | rfl | (simp only [List.length_drop, List.length_take]; rfl)) ?_; (with_reducible refine (sect_name.calls kj3 (rd l0 x8_1) ji15 _ _ t248 t252 none _ ?side1 ?side2 A21.out).mono ?_); (case side1 => refine (Kd.R_reads' (e := 5) (base := w.heap.size) (ok := fun k_ => True) (n := t248.length) (c := co26) ?_).2.2; exact (by (with_reducible repeat (first | apply Kd.R_alloc | apply Kd.R_drewN | apply Kd.R_drew)); exact (Kd.R_mono (Kd.R_far (p := ⟨gb251, 2, none⟩) (Kd.R_far (p := ⟨gb251, 1, none⟩) (Kd.R_far (p := ⟨gb251, 0, none⟩) (Kd.R_types HO250.out BK251.out (by decide)) (fun _ hk => hk.2) (.int .u8 (rd l0 x8_1))) (fun _ hk => hk.2) (.int .i64 ji15)) (fun _ hk => hk.2) (.slice Ao26 t248.length co26)) (fun _ h_ => h_.1)))); (case side2 => exact (Kd.R_reads' HO250.out).2.1); rintro e w29 ⟨rfl, hb⟩; refine ⟨_, rfl, ?_⟩; have n0_ := Aside0.mk (Kd.S_below (by (with_reducible repeat (first | apply Kd.S_alloc | apply Kd.S_drewN | apply Kd.S_drew)); exact (Kd.S_mono (Kd.S_far (p := ⟨gb251, 2, none⟩) (Kd.S_far (p := ⟨gb251, 1, none⟩) (Kd.S_far (p := ⟨gb251, 0, none⟩) (Kd.S_mono HO_6.out (fun k_ hk => (⟨hk, hk.2⟩ : _ ∧ k_ ≠ gb251))) (fun _ hk => hk.2) (.int .u8 (rd l0 x8_1))) (fun _ hk => hk.2) (.int .i64 ji15)) (fun _ hk => hk.2) (.slice Ao26 t248.length co26)) (fun _ h_ => h_.1))) hb); have n1_ := Aside0.mk (Kd.R_below (by (with_reducible repeat (first | apply Kd.R_alloc | apply Kd.R_drewN | apply Kd.R_drew)); exact (Kd.R_mono (Kd.R_far (p := ⟨gb251, 2, none⟩) (Kd.R_far (p := ⟨gb251, 1, none⟩) (Kd.R_far (p := ⟨gb251, 0, none⟩) (Kd.R_types HO250.out BK251.out (by decide)) (fun _ hk => hk.2) (.int .u8 (rd l0 x8_1))) (fun _ hk => hk.2) (.int .i64 ji15)) (fun _ hk => hk.2) (.slice Ao26 t248.length co26)) (fun _ h_ => h_.1))) hb); have n2_ := Aside0.mk (blk_below (g := gb251) (o := .cells #[.int .u8 (rd l0 x8_1), .int .i64 ji15, .slice Ao26 t248.length co26] 53 (0, 0)) (by (with_reducible repeat (first | refine blk_drewN ?_ _ | refine blk_drew ?_ | refine blk_alloc ?_ _)); refine blk_put (cs := #[.int .u8 (rd l0 x8_1), .int .i64 ji15, .slice none 0 0]) ?_ 2 _ rfl; (with_reducible repeat (first | refine blk_drewN ?_ _ | refine blk_drew ?_ | refine blk_alloc ?_ _)); refine blk_put (cs := #[.int .u8 (rd l0 x8_1), .int .i64 0, .slice none 0 0]) ?_ 1 _ rfl; (with_reducible repeat (first | refine blk_drewN ?_ _ | refine blk_drew ?_ | refine blk_alloc ?_ _)); refine blk_put (cs := #[.int .u8 0, .int .i64 0, .slice none 0 0]) ?_ 0 _ rfl; (with_reducible repeat (first | refine blk_drewN ?_ _ | refine blk_drew ?_ | refine blk_alloc ?_ _)); exact BK251.out) hb); have n3_ := Aside0.mk (below_step (by repeat (first | (with_reducible first | exact HB.out | apply below_alloc | apply pw_below_drewN | apply below_drew1 | refine below_set ?_ GE251.out) | exact HB.out)) hb); clear HO_6; clear HO250; clear BK251; clear HB; have HO_6 := n0_; have HO250 := n1_; have BK251 := n2_; have HB := n3_; clear n0_ n1_ n2_ n3_; (try clear hb); (try clear hb2); (try clear hk); (try clear hi); (try simp only [errW_none, errW_some]); have hcz30_0 : w29.cell? ⟨gb251, 0, none⟩ = some (.int .u8 (rd l0 x8_1)) := (blk_cell BK251.out 0).trans rfl; have hcz30_1 : w29.cell? ⟨gb251, 1, none⟩ = some (.int .i64 ji15) := (blk_cell BK251.out 1).trans rfl; have hcz30_2 : w29.cell? ⟨gb251, 2, none⟩ = some (.slice Ao26 t248.length co26) := (blk_cell BK251.out 2).trans rfl; have hfz30_0 := blk_frozen BK251.out 0; have hfz30_1 := blk_frozen BK251.out 1; have hfz30_2 := blk_frozen BK251.out 2) | ((with_reducible refine gate_builtin (b := .append) (xs := #[.tmp 110, .tmp 112]) rfl ?_); at_builtin; refine Kd.S_append k53 (w0 := w) w.heap.size rfl (.tmp 110) (.tmp 112) 41 53 (.agg #[(.int .u8 0), (.int .i64 0), (.slice none 0 0)]) 40 rfl Tryd.underlying41 info53 rfl (by decide) (by omega) u6 x6_1 (⟨(rd l0 x8_1), ji15, t248⟩ : S53) [.int .u8 (rd l0 x8_1), .int .i64 ji15, .slice Ao26 t248.length co26] (fun k_ => k_ ≠ gb251) (fun k_ => some k_ = (.slice Ao26 t248.length co26 : Value).ownBlock) rfl rfl ?aP (fun k_ hk_ => ((Kd.R_mono (ok' := fun k_ => ((fun k_ => k_ ≠ gb251)) k_ ∧ some k_ ≠ (u6 : Value).ownBlock) (Kd.R_types (Kd.R_apart' (HO250.out) (Kd.S_typed HO_6.out) (by decide)) BK251.out (by decide)) (fun k_ hk => ⟨hk.2, hk.1.2⟩))).1 k_ hk_.symm) ?aF ?aO ?aB ?aS ?aL ?_; (case aP => exact k53_mkM _ _ _ (⟨(rd l0 x8_1), ji15, t248⟩ : S53) (Kd.R_mono (Kd.R_tight rfl (Kd.R_mono (ok' := fun k_ => ((fun k_ => k_ ≠ gb251)) k_ ∧ some k_ ≠ (u6 : Value).ownBlock) (Kd.R_types (Kd.R_apart' (HO250.out) (Kd.S_typed HO_6.out) (by decide)) BK251.out (by decide)) (fun k_ hk => ⟨hk.2, hk.1.2⟩))) (fun _ h_ => h_))); (case aB => exact (by repeat (first | (with_reducible first | exact HB.out | apply below_alloc | apply pw_below_drewN | apply below_drew1 | refine below_set ?_ GE251.out) | exact HB.out))); (case aF => exact (fun k_ hk => Kd.freshB (g := gb251) (o := .cells #[.int .u8 (rd l0 x8_1), .int .i64 ji15, .slice Ao26 t248.length co26] 53 (0, 0)) (by (with_reducible repeat (first | refine blk_drewN ?_ _ | refine blk_drew ?_ | refine blk_alloc ?_ _)); exact BK251.out) k_ hk)); (case aO => exact (by (with_reducible repeat (first | apply Kd.S_alloc | apply Kd.S_drewN | apply Kd.S_drew)); exact Kd.S_mono HO_6.out (fun k_ hk => ⟨hk.2, fun e_ => hk.1.2 e_⟩))); (case aS => exact (below_size (by repeat (first | (with_reducible first | exact HB.out | apply below_alloc | apply pw_below_drewN | apply below_drew1 | refine below_set ?_ GE251.out) | exact HB.out)))); (case aL => have := LMc22.out; omega); intro v256 w31 ho hb hg hat; rw [← Ny255.out] at ho; have n0_ := Aside0.mk (blk_grown (g := gb251) (o := .cells #[.int .u8 (rd l0 x8_1), .int .i64 ji15, .slice Ao26 t248.length co26] 53 (0, 0)) (by (with_reducible repeat (first | refine blk_drewN ?_ _ | refine blk_drew ?_ | refine blk_alloc ?_ _)); exact BK251.out) hg (Kd.S_away HO_6.out (fun _ hk => hk.2))); have n1_ := Aside0.mk (hb); have n2_ := Aside0.mk (ho); clear BK251; clear HB; clear HO_6; clear HO250; have BK251 := n0_; have HB := n1_; have HO257 := n2_; clear n0_ n1_ n2_; clear ho hb hg hat))
                    go_roundg kj3
                    case measure => have := HK1.out; have := HJ3.out; omega
                    case rel => exact ⟨(y255), (ji8), (wrap64 ((ji15) + (wrap64 (t243)))), (by first | rfl | (simp; done) | (simp only [← hji8] <;> (first | rfl | simp)) | (simp [*]; done)), (by first | rfl | (simp; done) | (simp only [← hji15] <;> (first | rfl | simp)) | (simp [*]; done)), H', ⟨by have := HK1.out; have := HJ3.out; omega⟩, ⟨by (with_reducible repeat (first | apply Kd.S_alloc | apply Kd.S_drewN | apply Kd.S_drew)); exact Kd.S_mono HO257.out (fun _ hk => trivial)⟩, ⟨by repeat (first | (with_reducible first | exact HB.out | apply below_alloc | apply pw_below_drewN | apply below_drew1 | refine below_set ?_ GE251.out) | exact HB.out)⟩⟩
                   ·rw [if_neg c22] at H
                    exact absurd H (by simp)
                  ·have H1 : (some (([] : List (S53)), t252, some q254)) = some (r1, r2, r3) := by rw [if_neg (show ¬ (some q254).isNone = true by simp)] at H; exact H
                   clear H
                   have H := H1
                   clear H1
                   try simp only [errW_none, errW_some]
                   simp only [Option.some.injEq, Prod.mk.injEq] at H
                   obtain ⟨rfl, rfl, rfl⟩ := H
                   obtain ⟨i032, hi032, _, hsz32, _⟩ := info_parts info5
                   obtain ⟨A32, hcut32, hA32, hC32⟩ := print_drop_of (P := Tryd.prog) (Value.int .u8) 0 22 5 .i64 Tryd.underlying22 hi032 hsz32 (some ad241) c0 l0 (ji9) (of_decide_eq_true (by first | (with_reducible assumption) | assumption)) (of_decide_eq_true (by first | (with_reducible assumption) | assumption)) HC0.out
                   have HR242 := Aside0.mk (Kd.C_of_reads (h1 := fun _ => rfl) (hA32 _ (Kd.reads_of_C HR0.out)))
                   have HC242 := Aside0.mk hC32
                   clear hA32 hC32 hi032 hsz32
                   go_wp2_with (first | ((with_reducible refine gate_callee (f := 10) rfl ?_); refine goesL_ (some 65) rfl rfl Tryd.func10 (by kernel_rfl) rfl #[.slice A32 (l0.drop ((ji9) : Int).toNat).length (c0 - (ji9).toNat), .int .i64 32] rfl (by (try simp only [List.map_toArray, List.map_cons, List.map_nil]); first | done | (rw [show (l0.drop ((ji9) : Int).toNat).length = (l0.length - (ji9).toNat) from List.length_drop] <;> rfl) | (simp only [hji9]; rfl) | rfl | (simp only [List.length_drop, List.length_take]; rfl)) ?_; (with_reducible refine (leb_TakeU.calls kj3 _ _ (l0.drop ((ji9) : Int).toNat) 32 t243 t244 none _ ?side1 ?side2 A12.out).mono ?_); (case side1 => repeat (first | exact (Kd.C_below HR242.out HB.out) | (with_reducible refine Kd.C_alloc ?_ _) | (with_reducible refine Kd.C_drewN ?_ _) | (with_reducible refine Kd.C_drew ?_))); (case side2 => exact HC242.out); rintro e w' ⟨rfl, ⟨nd, rfl⟩⟩; refine ⟨_, rfl, ?_⟩; (try simp only [errW_none, errW_some]); (try (rw [drewN_self wc]; generalize hq_ : World.drewN wc _ = wc; have n0_ : Aside0 (Kd.S k53 53 wc w.heap.size (fun _ => True) u6 x6_1) := ⟨by rw [← hq_]; exact (by (with_reducible repeat (first | apply Kd.S_alloc | apply Kd.S_drewN | apply Kd.S_drew)); exact HO_6.out)⟩; have n1_ : Aside0 (Below w.heap.size w wc) := ⟨by rw [← hq_]; exact (by repeat (first | (with_reducible first | exact HB.out | apply below_alloc | apply pw_below_drewN | apply below_drew1) | exact HB.out))⟩; clear HO_6 HB hq_; have HO_6 := n0_; have HB := n1_; clear n0_ n1_)); obtain ⟨i033, hi033, _, hsz33, _⟩ := info_parts info5; obtain ⟨A33, hcut33, hA33, hC33⟩ := print_mid_of (P := Tryd.prog) (Value.int .u8) 0 22 5 .i64 .i64 Tryd.underlying22 hi033 hsz33 (some ad241) c0 l0 (ji15) (wrap64 ((ji15) + (wrap64 (t243)))) (of_decide_eq_true (by first | (with_reducible assumption) | assumption)) (by first | omega | exact of_decide_eq_true (by first | (with_reducible assumption) | assumption)) (of_decide_eq_true (by first | (with_reducible assumption) | assumption)) HC0.out; have HR247 := Aside0.mk (Kd.C_of_reads (h1 := fun _ => rfl) (hA33 _ (Kd.reads_of_C HR0.out))); have HC247 := Aside0.mk hC33; clear hA33 hC33 hi033 hsz33) | ((with_reducible refine gate_callee (f := 36) rfl ?_); refine goesL_ (some 97) rfl rfl Tryd.func36 (by kernel_rfl) rfl #[.slice A33 ((l0.take ((wrap64 ((ji15) + (wrap64 (t243)))) : Int).toNat).drop ((ji15) : Int).toNat).length (c0 - (ji15).toNat)] rfl (by (try simp only [List.map_toArray, List.map_cons, List.map_nil]); first | done | (rw [show ((l0.take ((wrap64 ((ji15) + (wrap64 (t243)))) : Int).toNat).drop ((ji15) : Int).toNat).length = ((wrap64 ((ji15) + (wrap64 (t243)))).toNat - (ji15).toNat) from (by rw [List.length_drop, List.length_take]; have h_ : ((wrap64 ((ji15) + (wrap64 (t243)))) : Int) ≤ (l0.length : Int) := of_decide_eq_true (by first | (with_reducible assumption) | assumption); omega)] <;> rfl) | (simp only [hji15]; rfl) | rfl | (simp only [List.length_drop, List.length_take]; rfl)) ?_; (with_reducible refine (slices_Clone_byte_byte.calls _ _ ((l0.take ((wrap64 ((ji15) + (wrap64 (t243)))) : Int).toNat).drop ((ji15) : Int).toNat) t248 _ ?side1 ?side2 A19.out).mono ?_); (case side1 => repeat (first | exact (Kd.C_below HR247.out HB.out) | (with_reducible refine Kd.C_alloc ?_ _) | (with_reducible refine Kd.C_drewN ?_ _) | (with_reducible refine Kd.C_drew ?_))); (case side2 => exact HC247.out); rintro e w34 ⟨v249, rfl, ho0, hb⟩; refine ⟨_, rfl, ?_⟩; have n0_ := Aside0.mk (Kd.S_elder' (by (with_reducible repeat (first | apply Kd.S_alloc | apply Kd.S_drewN | apply Kd.S_drew)); exact HO_6.out) (Kd.R_base ho0) hb); have n1_ := Aside0.mk (Kd.R_lower ho0 (below_size (by repeat (first | (with_reducible first | exact HB.out | apply below_alloc | apply pw_below_drewN | apply below_drew1) | exact HB.out)))); have n2_ := Aside0.mk (below_step (by repeat (first | (with_reducible first | exact HB.out | apply below_alloc | apply pw_below_drewN | apply below_drew1) | exact HB.out)) hb); clear HO_6; clear HB; have HO_6 := n0_; have HO250 := n1_; have HB := n2_; clear n0_ n1_ n2_; (try clear hb); (try clear hb2); (try clear hk); (try clear hi); (try clear ho0); obtain ⟨Ao35, co35, eo35⟩ := Kd.R_slice HO250.out; subst eo35) | ((with_reducible refine gate_dst (N := 14) rfl ?_); refine box_event ?hg (N := 14) ?hd (cs := #[.int .u8 0, .int .i64 0, .slice none 0 0]) (t := 53) ?hr ?_; (case hd => rfl); (case hg => rfl); (case hr => first | (go_simp; done) | (go_simp; rfl)); intro gb251 hg w36 hbox hb; have n0_ := Aside0.mk (Kd.S_below (Kd.S_elderB (by (with_reducible repeat (first | apply Kd.S_alloc | apply Kd.S_drewN | apply Kd.S_drew)); exact HO_6.out) gb251 (Nat.le_of_eq hg.symm)) hb); have n1_ := Aside0.mk (Kd.R_below (by (with_reducible repeat (first | apply Kd.R_alloc | apply Kd.R_drewN | apply Kd.R_drew)); exact HO250.out) hb); have n2_ := Aside0.mk (below_step (by repeat (first | (with_reducible first | exact HB.out | apply below_alloc | apply pw_below_drewN | apply below_drew1) | exact HB.out)) hb); have n3_ := Aside0.mk (hbox); have n4_ := Aside0.mk ((by rw [hg]; exact (below_size (by repeat (first | (with_reducible first | exact HB.out | apply below_alloc | apply pw_below_drewN | apply below_drew1) | exact HB.out))) : w.heap.size ≤ gb251)); have n5_ := Aside0.mk ((by rw [hg]; exact (below_size (by repeat (first | (with_reducible first | exact HB.out | apply below_alloc | apply pw_below_drewN | apply below_drew1) | exact HB.out))) : w.heap.size ≤ gb251)); clear HO_6; clear HO250; clear HB; have HO_6 := n0_; have HO250 := n1_; have HB := n2_; have BK251 := n3_; have GW251 := n4_; have GE251 := n5_; clear n0_ n1_ n2_ n3_ n4_ n5_; clear hb hbox hg; have hcz37_0 : w36.cell? ⟨gb251, 0, none⟩ = some (.int .u8 0) := (blk_cell BK251.out 0).trans rfl; have hcz37_1 : w36.cell? ⟨gb251, 1, none⟩ = some (.int .i64 0) := (blk_cell BK251.out 1).trans rfl; have hcz37_2 : w36.cell? ⟨gb251, 2, none⟩ = some (.slice none 0 0) := (blk_cell BK251.out 2).trans rfl; have hfz37_0 := blk_frozen BK251.out 0; have hfz37_1 := blk_frozen BK251.out 1; have hfz37_2 := blk_frozen BK251.out 2) | ((with_reducible refine gate_callee (f := 37) rfl ?_); refine goesL_ (some 103) rfl rfl Tryd.func37 (by kernel_rfl) rfl #[.agg #[.int .u8 (rd l0 x8_1), .int .i64 ji15, .slice Ao35 t248.length co35]] rfl (by (try simp only [List.map_toArray, List.map_cons, List.map_nil]); first | done | (simp only [hji15]; rfl) | rfl | (simp only [List.length_drop, List.length_take]; rfl)) ?_; (with_reducible refine (sect_name.calls kj3 (rd l0 x8_1) ji15 _ _ t248 t252 (some q254) _ ?side1 ?side2 A21.out).mono ?_); (case side1 => refine (Kd.R_reads' (e := 5) (base := w.heap.size) (ok := fun k_ => True) (n := t248.length) (c := co35) ?_).2.2; exact (by (with_reducible repeat (first | apply Kd.R_alloc | apply Kd.R_drewN | apply Kd.R_drew)); exact (Kd.R_mono (Kd.R_far (p := ⟨gb251, 2, none⟩) (Kd.R_far (p := ⟨gb251, 1, none⟩) (Kd.R_far (p := ⟨gb251, 0, none⟩) (Kd.R_types HO250.out BK251.out (by decide)) (fun _ hk => hk.2) (.int .u8 (rd l0 x8_1))) (fun _ hk => hk.2) (.int .i64 ji15)) (fun _ hk => hk.2) (.slice Ao35 t248.length co35)) (fun _ h_ => h_.1)))); (case side2 => exact (Kd.R_reads' HO250.out).2.1); rintro e w38 ⟨rfl, hb⟩; refine ⟨_, rfl, ?_⟩; have n0_ := Aside0.mk (Kd.S_below (by (with_reducible repeat (first | apply Kd.S_alloc | apply Kd.S_drewN | apply Kd.S_drew)); exact (Kd.S_mono (Kd.S_far (p := ⟨gb251, 2, none⟩) (Kd.S_far (p := ⟨gb251, 1, none⟩) (Kd.S_far (p := ⟨gb251, 0, none⟩) (Kd.S_mono HO_6.out (fun k_ hk => (⟨hk, hk.2⟩ : _ ∧ k_ ≠ gb251))) (fun _ hk => hk.2) (.int .u8 (rd l0 x8_1))) (fun _ hk => hk.2) (.int .i64 ji15)) (fun _ hk => hk.2) (.slice Ao35 t248.length co35)) (fun _ h_ => h_.1))) hb); have n1_ := Aside0.mk (Kd.R_below (by (with_reducible repeat (first | apply Kd.R_alloc | apply Kd.R_drewN | apply Kd.R_drew)); exact (Kd.R_mono (Kd.R_far (p := ⟨gb251, 2, none⟩) (Kd.R_far (p := ⟨gb251, 1, none⟩) (Kd.R_far (p := ⟨gb251, 0, none⟩) (Kd.R_types HO250.out BK251.out (by decide)) (fun _ hk => hk.2) (.int .u8 (rd l0 x8_1))) (fun _ hk => hk.2) (.int .i64 ji15)) (fun _ hk => hk.2) (.slice Ao35 t248.length co35)) (fun _ h_ => h_.1))) hb); have n2_ := Aside0.mk (blk_below (g := gb251) (o := .cells #[.int .u8 (rd l0 x8_1), .int .i64 ji15, .slice Ao35 t248.length co35] 53 (0, 0)) (by (with_reducible repeat (first | refine blk_drewN ?_ _ | refine blk_drew ?_ | refine blk_alloc ?_ _)); refine blk_put (cs := #[.int .u8 (rd l0 x8_1), .int .i64 ji15, .slice none 0 0]) ?_ 2 _ rfl; (with_reducible repeat (first | refine blk_drewN ?_ _ | refine blk_drew ?_ | refine blk_alloc ?_ _)); refine blk_put (cs := #[.int .u8 (rd l0 x8_1), .int .i64 0, .slice none 0 0]) ?_ 1 _ rfl; (with_reducible repeat (first | refine blk_drewN ?_ _ | refine blk_drew ?_ | refine blk_alloc ?_ _)); refine blk_put (cs := #[.int .u8 0, .int .i64 0, .slice none 0 0]) ?_ 0 _ rfl; (with_reducible repeat (first | refine blk_drewN ?_ _ | refine blk_drew ?_ | refine blk_alloc ?_ _)); exact BK251.out) hb); have n3_ := Aside0.mk (below_step (by repeat (first | (with_reducible first | exact HB.out | apply below_alloc | apply pw_below_drewN | apply below_drew1 | refine below_set ?_ GE251.out) | exact HB.out)) hb); clear HO_6; clear HO250; clear BK251; clear HB; have HO_6 := n0_; have HO250 := n1_; have BK251 := n2_; have HB := n3_; clear n0_ n1_ n2_ n3_; (try clear hb); (try clear hb2); (try clear hk); (try clear hi); (try simp only [errW_none, errW_some])))
                   go_ret3
                   exact ⟨_, by first | rfl | (simp [errW_none, errW_some] <;> rfl) | (simp only [← hji8, ← hji9, ← hji15]; first | rfl | (simp [errW_none, errW_some] <;> rfl)) | (simp [*, errW_none, errW_some] <;> rfl), by first | exact Kd.S_nil _ _ _ _ _ | exact Kd.N_nil _ _ _ _ _ | exact Kd.V_nil _ _ _ _ _ | exact Kd.Q_nil _ _ _ _ _ | exact Kd.R_nil _ _ _ _ _, by repeat (first | (with_reducible first | exact HB.out | apply below_alloc | apply pw_below_drewN | apply below_drew1 | refine below_set ?_ GE251.out) | exact HB.out)⟩
                 ·rw [if_neg c20] at H
                  have c20b0 : ((rd l0 x8_1) == 0) = false := beq_eq_false_iff_ne.mpr c20
                  have c20b1 : ((rd l0 x8_1) != 0) = true := bne_iff_ne.mpr c20
                  by_cases c39 : x6_1.length < 3518437208883
                  ·rw [if_pos c39] at H
                   have LMc39 := Aside0.mk c39
                   clear c39
                   obtain ⟨y258, hy258⟩ : ∃ y_ : List (S53), y_ = (x6_1 ++ [(⟨(rd l0 x8_1), ji15, t248⟩ : S53)]) := ⟨_, rfl⟩
                   replace H : (sect_Split.l0 kj3 l0 y258 ji8 (wrap64 ((ji15) + (wrap64 (t243))))) = some (r1, r2, r3) := by first | (rw [hy258]; with_reducible exact H) | (have H2_ := (Option.bind_some _ _).symm.trans H; rw [hy258]; with_reducible exact H2_) | (have H2_ := (Option.bind_some _ _).symm.trans H; with_reducible exact H2_) | with_reducible exact H | (rw [hy258]; exact H) | exact H
                   have Ny258 := Aside0.mk hy258
                   clear hy258
                   have H' := Aside0.mk H
                   clear H
                   obtain ⟨i040, hi040, _, hsz40, _⟩ := info_parts info5
                   obtain ⟨A40, hcut40, hA40, hC40⟩ := print_drop_of (P := Tryd.prog) (Value.int .u8) 0 22 5 .i64 Tryd.underlying22 hi040 hsz40 (some ad241) c0 l0 (ji9) (of_decide_eq_true (by first | (with_reducible assumption) | assumption)) (of_decide_eq_true (by first | (with_reducible assumption) | assumption)) HC0.out
                   have HR242 := Aside0.mk (Kd.C_of_reads (h1 := fun _ => rfl) (hA40 _ (Kd.reads_of_C HR0.out)))
                   have HC242 := Aside0.mk hC40
                   clear hA40 hC40 hi040 hsz40
                   go_wp2_with (first | ((with_reducible refine gate_callee (f := 10) rfl ?_); refine goesL_ (some 65) rfl rfl Tryd.func10 (by kernel_rfl) rfl #[.slice A40 (l0.drop ((ji9) : Int).toNat).length (c0 - (ji9).toNat), .int .i64 32] rfl (by (try simp only [List.map_toArray, List.map_cons, List.map_nil]); first | done | (rw [show (l0.drop ((ji9) : Int).toNat).length = (l0.length - (ji9).toNat) from List.length_drop] <;> rfl) | (simp only [hji9]; rfl) | rfl | (simp only [List.length_drop, List.length_take]; rfl)) ?_; (with_reducible refine (leb_TakeU.calls kj3 _ _ (l0.drop ((ji9) : Int).toNat) 32 t243 t244 none _ ?side1 ?side2 A12.out).mono ?_); (case side1 => repeat (first | exact (Kd.C_below HR242.out HB.out) | (with_reducible refine Kd.C_alloc ?_ _) | (with_reducible refine Kd.C_drewN ?_ _) | (with_reducible refine Kd.C_drew ?_))); (case side2 => exact HC242.out); rintro e w' ⟨rfl, ⟨nd, rfl⟩⟩; refine ⟨_, rfl, ?_⟩; (try simp only [errW_none, errW_some]); (try (rw [drewN_self wc]; generalize hq_ : World.drewN wc _ = wc; have n0_ : Aside0 (Kd.S k53 53 wc w.heap.size (fun _ => True) u6 x6_1) := ⟨by rw [← hq_]; exact (by (with_reducible repeat (first | apply Kd.S_alloc | apply Kd.S_drewN | apply Kd.S_drew)); exact HO_6.out)⟩; have n1_ : Aside0 (Below w.heap.size w wc) := ⟨by rw [← hq_]; exact (by repeat (first | (with_reducible first | exact HB.out | apply below_alloc | apply pw_below_drewN | apply below_drew1) | exact HB.out))⟩; clear HO_6 HB hq_; have HO_6 := n0_; have HB := n1_; clear n0_ n1_)); obtain ⟨i041, hi041, _, hsz41, _⟩ := info_parts info5; obtain ⟨A41, hcut41, hA41, hC41⟩ := print_mid_of (P := Tryd.prog) (Value.int .u8) 0 22 5 .i64 .i64 Tryd.underlying22 hi041 hsz41 (some ad241) c0 l0 (ji15) (wrap64 ((ji15) + (wrap64 (t243)))) (of_decide_eq_true (by first | (with_reducible assumption) | assumption)) (by first | omega | exact of_decide_eq_true (by first | (with_reducible assumption) | assumption)) (of_decide_eq_true (by first | (with_reducible assumption) | assumption)) HC0.out; have HR247 := Aside0.mk (Kd.C_of_reads (h1 := fun _ => rfl) (hA41 _ (Kd.reads_of_C HR0.out))); have HC247 := Aside0.mk hC41; clear hA41 hC41 hi041 hsz41) | ((with_reducible refine gate_callee (f := 36) rfl ?_); refine goesL_ (some 97) rfl rfl Tryd.func36 (by kernel_rfl) rfl #[.slice A41 ((l0.take ((wrap64 ((ji15) + (wrap64 (t243)))) : Int).toNat).drop ((ji15) : Int).toNat).length (c0 - (ji15).toNat)] rfl (by (try simp only [List.map_toArray, List.map_cons, List.map_nil]); first | done | (rw [show ((l0.take ((wrap64 ((ji15) + (wrap64 (t243)))) : Int).toNat).drop ((ji15) : Int).toNat).length = ((wrap64 ((ji15) + (wrap64 (t243)))).toNat - (ji15).toNat) from (by rw [List.length_drop, List.length_take]; have h_ : ((wrap64 ((ji15) + (wrap64 (t243)))) : Int) ≤ (l0.length : Int) := of_decide_eq_true (by first | (with_reducible assumption) | assumption); omega)] <;> rfl) | (simp only [hji15]; rfl) | rfl | (simp only [List.length_drop, List.length_take]; rfl)) ?_; (with_reducible refine (slices_Clone_byte_byte.calls _ _ ((l0.take ((wrap64 ((ji15) + (wrap64 (t243)))) : Int).toNat).drop ((ji15) : Int).toNat) t248 _ ?side1 ?side2 A19.out).mono ?_); (case side1 => repeat (first | exact (Kd.C_below HR247.out HB.out) | (with_reducible refine Kd.C_alloc ?_ _) | (with_reducible refine Kd.C_drewN ?_ _) | (with_reducible refine Kd.C_drew ?_))); (case side2 => exact HC247.out); rintro e w42 ⟨v249, rfl, ho0, hb⟩; refine ⟨_, rfl, ?_⟩; have n0_ := Aside0.mk (Kd.S_elder' (by (with_reducible repeat (first | apply Kd.S_alloc | apply Kd.S_drewN | apply Kd.S_drew)); exact HO_6.out) (Kd.R_base ho0) hb); have n1_ := Aside0.mk (Kd.R_lower ho0 (below_size (by repeat (first | (with_reducible first | exact HB.out | apply below_alloc | apply pw_below_drewN | apply below_drew1) | exact HB.out)))); have n2_ := Aside0.mk (below_step (by repeat (first | (with_reducible first | exact HB.out | apply below_alloc | apply pw_below_drewN | apply below_drew1) | exact HB.out)) hb); clear HO_6; clear HB; have HO_6 := n0_; have HO250 := n1_; have HB := n2_; clear n0_ n1_ n2_; (try clear hb); (try clear hb2); (try clear hk); (try clear hi); (try clear ho0); obtain ⟨Ao43, co43, eo43⟩ := Kd.R_slice HO250.out; subst eo43) | ((with_reducible refine gate_dst (N := 14) rfl ?_); refine box_event ?hg (N := 14) ?hd (cs := #[.int .u8 0, .int .i64 0, .slice none 0 0]) (t := 53) ?hr ?_; (case hd => rfl); (case hg => rfl); (case hr => first | (go_simp; done) | (go_simp; rfl)); intro gb251 hg w44 hbox hb; have n0_ := Aside0.mk (Kd.S_below (Kd.S_elderB (by (with_reducible repeat (first | apply Kd.S_alloc | apply Kd.S_drewN | apply Kd.S_drew)); exact HO_6.out) gb251 (Nat.le_of_eq hg.symm)) hb); have n1_ := Aside0.mk (Kd.R_below (by (with_reducible repeat (first | apply Kd.R_alloc | apply Kd.R_drewN | apply Kd.R_drew)); exact HO250.out) hb); have n2_ := Aside0.mk (below_step (by repeat (first | (with_reducible first | exact HB.out | apply below_alloc | apply pw_below_drewN | apply below_drew1) | exact HB.out)) hb); have n3_ := Aside0.mk (hbox); have n4_ := Aside0.mk ((by rw [hg]; exact (below_size (by repeat (first | (with_reducible first | exact HB.out | apply below_alloc | apply pw_below_drewN | apply below_drew1) | exact HB.out))) : w.heap.size ≤ gb251)); have n5_ := Aside0.mk ((by rw [hg]; exact (below_size (by repeat (first | (with_reducible first | exact HB.out | apply below_alloc | apply pw_below_drewN | apply below_drew1) | exact HB.out))) : w.heap.size ≤ gb251)); clear HO_6; clear HO250; clear HB; have HO_6 := n0_; have HO250 := n1_; have HB := n2_; have BK251 := n3_; have GW251 := n4_; have GE251 := n5_; clear n0_ n1_ n2_ n3_ n4_ n5_; clear hb hbox hg; have hcz45_0 : w44.cell? ⟨gb251, 0, none⟩ = some (.int .u8 0) := (blk_cell BK251.out 0).trans rfl; have hcz45_1 : w44.cell? ⟨gb251, 1, none⟩ = some (.int .i64 0) := (blk_cell BK251.out 1).trans rfl; have hcz45_2 : w44.cell? ⟨gb251, 2, none⟩ = some (.slice none 0 0) := (blk_cell BK251.out 2).trans rfl; have hfz45_0 := blk_frozen BK251.out 0; have hfz45_1 := blk_frozen BK251.out 1; have hfz45_2 := blk_frozen BK251.out 2) | ((with_reducible refine gate_store (t := 53) (p := 14) rfl ?_); refine store_event (t := 53) (p := 14) (v := ?vo_w46) (w1 := (((w44.setCell ⟨gb251, 0, none⟩ (.int .u8 (rd l0 x8_1))).setCell ⟨gb251, 1, none⟩ (.int .i64 ji15)).setCell ⟨gb251, 2, none⟩ (.slice Ao43 t248.length co43))) ?hg ?ho ?hn ?hr ?_; (case ho => rfl); (case hg => rfl); (case hn => rfl); (case hr => first | (go_simp; done) | (go_simp; rfl)); intro w46 hw; have n0_ : Aside0 (Kd.S k53 53 w46 w.heap.size (fun k_ => some k_ ≠ (.slice Ao43 t248.length co43 : Value).ownBlock ∧ k_ ≠ gb251) u6 x6_1) := ⟨(by rw [hw]; exact (by (with_reducible repeat (first | apply Kd.S_alloc | apply Kd.S_drewN | apply Kd.S_drew)); exact Kd.S_mono (Kd.S_far (p := ⟨gb251, 2, none⟩) (Kd.S_far (p := ⟨gb251, 1, none⟩) (Kd.S_far (p := ⟨gb251, 0, none⟩) (Kd.S_mono HO_6.out (fun k_ hk => (⟨hk, hk.2⟩ : _ ∧ k_ ≠ gb251))) (fun _ hk => hk.2) (.int .u8 (rd l0 x8_1))) (fun _ hk => hk.2) (.int .i64 ji15)) (fun _ hk => hk.2) (.slice Ao43 t248.length co43)) (fun _ hk => ⟨hk.1.1.2, hk.1.2⟩)))⟩; have n1_ : Aside0 (Kd.R (Kd.int .u8) 5 w46 w.heap.size (fun _ => True) (.slice Ao43 t248.length co43) t248) := ⟨(by rw [hw]; exact (by (with_reducible repeat (first | apply Kd.R_alloc | apply Kd.R_drewN | apply Kd.R_drew)); exact Kd.R_mono (Kd.R_far (p := ⟨gb251, 2, none⟩) (Kd.R_far (p := ⟨gb251, 1, none⟩) (Kd.R_far (p := ⟨gb251, 0, none⟩) (Kd.R_types HO250.out BK251.out (by decide)) (fun _ hk => hk.2) (.int .u8 (rd l0 x8_1))) (fun _ hk => hk.2) (.int .i64 ji15)) (fun _ hk => hk.2) (.slice Ao43 t248.length co43)) (fun _ hk => trivial)))⟩; have n2_ : Aside0 (w46.heap[gb251]? = some (.cells #[.int .u8 (rd l0 x8_1), .int .i64 ji15, .slice Ao43 t248.length co43] 53 (0, 0))) := ⟨(by rw [hw]; exact (by (with_reducible repeat (first | refine blk_drewN ?_ _ | refine blk_drew ?_ | refine blk_alloc ?_ _)); refine blk_put (cs := #[.int .u8 (rd l0 x8_1), .int .i64 ji15, .slice none 0 0]) ?_ 2 _ rfl; (with_reducible repeat (first | refine blk_drewN ?_ _ | refine blk_drew ?_ | refine blk_alloc ?_ _)); refine blk_put (cs := #[.int .u8 (rd l0 x8_1), .int .i64 0, .slice none 0 0]) ?_ 1 _ rfl; (with_reducible repeat (first | refine blk_drewN ?_ _ | refine blk_drew ?_ | refine blk_alloc ?_ _)); refine blk_put (cs := #[.int .u8 0, .int .i64 0, .slice none 0 0]) ?_ 0 _ rfl; (with_reducible repeat (first | refine blk_drewN ?_ _ | refine blk_drew ?_ | refine blk_alloc ?_ _)); exact BK251.out))⟩; have n3_ : Aside0 (Below w.heap.size w w46) := ⟨(by rw [hw]; exact (by repeat (first | (with_reducible first | exact HB.out | apply below_alloc | apply pw_below_drewN | apply below_drew1 | refine below_set ?_ GE251.out) | exact HB.out)))⟩; clear hw; clear HO_6; clear HO250; clear BK251; clear HB; have HO_6 := n0_; have HO250 := n1_; have BK251 := n2_; have HB := n3_; clear n0_ n1_ n2_ n3_; have hcz47_0 : w46.cell? ⟨gb251, 0, none⟩ = some (.int .u8 (rd l0 x8_1)) := (blk_cell BK251.out 0).trans rfl; have hcz47_1 : w46.cell? ⟨gb251, 1, none⟩ = some (.int .i64 ji15) := (blk_cell BK251.out 1).trans rfl; have hcz47_2 : w46.cell? ⟨gb251, 2, none⟩ = some (.slice Ao43 t248.length co43) := (blk_cell BK251.out 2).trans rfl; have hfz47_0 := blk_frozen BK251.out 0; have hfz47_1 := blk_frozen BK251.out 1; have hfz47_2 := blk_frozen BK251.out 2) | ((with_reducible refine gate_builtin (b := .append) (xs := #[.tmp 110, .tmp 112]) rfl ?_); at_builtin; refine Kd.S_append k53 (w0 := w) w.heap.size rfl (.tmp 110) (.tmp 112) 41 53 (.agg #[(.int .u8 0), (.int .i64 0), (.slice none 0 0)]) 40 rfl Tryd.underlying41 info53 rfl (by decide) (by omega) u6 x6_1 (⟨(rd l0 x8_1), ji15, t248⟩ : S53) [.int .u8 (rd l0 x8_1), .int .i64 ji15, .slice Ao43 t248.length co43] (fun k_ => k_ ≠ gb251) (fun k_ => some k_ = (.slice Ao43 t248.length co43 : Value).ownBlock) rfl rfl ?aP (fun k_ hk_ => ((Kd.R_mono (ok' := fun k_ => ((fun k_ => k_ ≠ gb251)) k_ ∧ some k_ ≠ (u6 : Value).ownBlock) (Kd.R_types (Kd.R_apart' (HO250.out) (Kd.S_typed HO_6.out) (by decide)) BK251.out (by decide)) (fun k_ hk => ⟨hk.2, hk.1.2⟩))).1 k_ hk_.symm) ?aF ?aO ?aB ?aS ?aL ?_; (case aP => exact k53_mkM _ _ _ (⟨(rd l0 x8_1), ji15, t248⟩ : S53) (Kd.R_mono (Kd.R_tight rfl (Kd.R_mono (ok' := fun k_ => ((fun k_ => k_ ≠ gb251)) k_ ∧ some k_ ≠ (u6 : Value).ownBlock) (Kd.R_types (Kd.R_apart' (HO250.out) (Kd.S_typed HO_6.out) (by decide)) BK251.out (by decide)) (fun k_ hk => ⟨hk.2, hk.1.2⟩))) (fun _ h_ => h_))); (case aB => exact (by repeat (first | (with_reducible first | exact HB.out | apply below_alloc | apply pw_below_drewN | apply below_drew1 | refine below_set ?_ GE251.out) | exact HB.out))); (case aF => exact (fun k_ hk => Kd.freshB (g := gb251) (o := .cells #[.int .u8 (rd l0 x8_1), .int .i64 ji15, .slice Ao43 t248.length co43] 53 (0, 0)) (by (with_reducible repeat (first | refine blk_drewN ?_ _ | refine blk_drew ?_ | refine blk_alloc ?_ _)); exact BK251.out) k_ hk)); (case aO => exact (by (with_reducible repeat (first | apply Kd.S_alloc | apply Kd.S_drewN | apply Kd.S_drew)); exact Kd.S_mono HO_6.out (fun k_ hk => ⟨hk.2, fun e_ => hk.1 e_⟩))); (case aS => exact (below_size (by repeat (first | (with_reducible first | exact HB.out | apply below_alloc | apply pw_below_drewN | apply below_drew1 | refine below_set ?_ GE251.out) | exact HB.out)))); (case aL => have := LMc39.out; omega); intro v259 w48 ho hb hg hat; rw [← Ny258.out] at ho; have n0_ := Aside0.mk (blk_grown (g := gb251) (o := .cells #[.int .u8 (rd l0 x8_1), .int .i64 ji15, .slice Ao43 t248.length co43] 53 (0, 0)) (by (with_reducible repeat (first | refine blk_drewN ?_ _ | refine blk_drew ?_ | refine blk_alloc ?_ _)); exact BK251.out) hg (Kd.S_away HO_6.out (fun _ hk => hk.2))); have n1_ := Aside0.mk (hb); have n2_ := Aside0.mk (ho); clear BK251; clear HB; clear HO_6; clear HO250; have BK251 := n0_; have HB := n1_; have HO260 := n2_; clear n0_ n1_ n2_; clear ho hb hg hat))
                   go_roundg kj3
                   case measure => have := HK1.out; have := HJ3.out; omega
                   case rel => exact ⟨(y258), (ji8), (wrap64 ((ji15) + (wrap64 (t243)))), (by first | rfl | (simp; done) | (simp only [← hji8] <;> (first | rfl | simp)) | (simp [*]; done)), (by first | rfl | (simp; done) | (simp only [← hji15] <;> (first | rfl | simp)) | (simp [*]; done)), H', ⟨by have := HK1.out; have := HJ3.out; omega⟩, ⟨by (with_reducible repeat (first | apply Kd.S_alloc | apply Kd.S_drewN | apply Kd.S_drew)); exact Kd.S_mono HO260.out (fun _ hk => trivial)⟩, ⟨by repeat (first | (with_reducible first | exact HB.out | apply below_alloc | apply pw_below_drewN | apply below_drew1 | refine below_set ?_ GE251.out) | exact HB.out)⟩⟩
                  ·rw [if_neg c39] at H
                   exact absurd H (by simp)
                ·rw [if_neg c18] at H
                 exact absurd H (by simp)
               ·rw [if_neg c17] at H
                exact absurd H (by simp)
              ·rw [if_neg c16] at H
               exact absurd H (by simp)
            ·have H1 : (some (([] : List (S53)), ji9, some q246)) = some (r1, r2, r3) := by rw [if_neg (show ¬ (some q246).isNone = true by simp)] at H; exact H
             clear H
             have H := H1
             clear H1
             try simp only [errW_none, errW_some]
             simp only [Option.some.injEq, Prod.mk.injEq] at H
             obtain ⟨rfl, rfl, rfl⟩ := H
             obtain ⟨i049, hi049, _, hsz49, _⟩ := info_parts info5
             obtain ⟨A49, hcut49, hA49, hC49⟩ := print_drop_of (P := Tryd.prog) (Value.int .u8) 0 22 5 .i64 Tryd.underlying22 hi049 hsz49 (some ad241) c0 l0 (ji9) (of_decide_eq_true (by first | (with_reducible assumption) | assumption)) (of_decide_eq_true (by first | (with_reducible assumption) | assumption)) HC0.out
             have HR242 := Aside0.mk (Kd.C_of_reads (h1 := fun _ => rfl) (hA49 _ (Kd.reads_of_C HR0.out)))
             have HC242 := Aside0.mk hC49
             clear hA49 hC49 hi049 hsz49
             go_wp2_with (first | ((with_reducible refine gate_callee (f := 10) rfl ?_); refine goesL_ (some 65) rfl rfl Tryd.func10 (by kernel_rfl) rfl #[.slice A49 (l0.drop ((ji9) : Int).toNat).length (c0 - (ji9).toNat), .int .i64 32] rfl (by (try simp only [List.map_toArray, List.map_cons, List.map_nil]); first | done | (rw [show (l0.drop ((ji9) : Int).toNat).length = (l0.length - (ji9).toNat) from List.length_drop] <;> rfl) | (simp only [hji9]; rfl) | rfl | (simp only [List.length_drop, List.length_take]; rfl)) ?_; (with_reducible refine (leb_TakeU.calls kj3 _ _ (l0.drop ((ji9) : Int).toNat) 32 t243 t244 (some q246) _ ?side1 ?side2 A12.out).mono ?_); (case side1 => repeat (first | exact (Kd.C_below HR242.out HB.out) | (with_reducible refine Kd.C_alloc ?_ _) | (with_reducible refine Kd.C_drewN ?_ _) | (with_reducible refine Kd.C_drew ?_))); (case side2 => exact HC242.out); rintro e w' ⟨rfl, ⟨nd, rfl⟩⟩; refine ⟨_, rfl, ?_⟩; (try simp only [errW_none, errW_some])))
             go_ret3
             exact ⟨_, by first | rfl | (simp [errW_none, errW_some] <;> rfl) | (simp only [← hji8, ← hji9]; first | rfl | (simp [errW_none, errW_some] <;> rfl)) | (simp [*, errW_none, errW_some] <;> rfl), by first | exact Kd.S_nil _ _ _ _ _ | exact Kd.N_nil _ _ _ _ _ | exact Kd.V_nil _ _ _ _ _ | exact Kd.Q_nil _ _ _ _ _ | exact Kd.R_nil _ _ _ _ _, by repeat (first | (with_reducible first | exact HB.out | apply below_alloc | apply pw_below_drewN | apply below_drew1) | exact HB.out)⟩
           ·rw [if_neg c11] at H
            exact absurd H (by simp)
          ·rw [if_neg c10] at H
           exact absurd H (by simp)
      ·rw [if_neg c3] at H
       exact absurd H (by simp)
     ·rw [if_neg c2] at H
      have c2b0 : decide (x8_1 < (l0.length : Int)) = false := decide_eq_false c2
      clear c2
      simp only [Option.some.injEq, Prod.mk.injEq] at H
      obtain ⟨rfl, rfl, rfl⟩ := H
      go_wp2
      go_ret3
      exact ⟨_, by first | rfl | (simp [errW_none, errW_some] <;> rfl) | (simp [*, errW_none, errW_some] <;> rfl), by (with_reducible repeat (first | apply Kd.S_alloc | apply Kd.S_drewN | apply Kd.S_drew)); exact HO_6.out, by repeat (first | (with_reducible first | exact HB.out | apply below_alloc | apply pw_below_drewN | apply below_drew1) | exact HB.out)⟩
  | succ k1 =>
   have hi : i < 8 := by have := HKI.out; omega
   have hnx := fun ty => Lib.run_next_ascii_at (P := Tryd.prog) wr w.heap.size ({ data := #[0, 97, 115, 109, 1, 0, 0, 0] } : ByteArray) i ty HIT.out (by rw [head_size]; exact hi) (head_small ⟨i, hi⟩)
   have hcons := List.drop_eq_getElem_cons (l := ([0, 97, 115, 109, 1, 0, 0, 0] : List Int)) (i := i) hi
   have hB2 : Below w.heap.size w (wr.iterAt w.heap.size ({ data := #[0, 97, 115, 109, 1, 0, 0, 0] } : ByteArray) (i + 1)) := Lib.below_iterAt HB.out (Nat.le_refl _) _ _
   have HI2 := Aside0.mk (Lib.iterAt_heap wr w.heap.size ({ data := #[0, 97, 115, 109, 1, 0, 0, 0] } : ByteArray) i (i + 1) HIT.out)
   have HB2 := Aside0.mk hB2
   rcases hdr : l0.drop i with _ | ⟨x, xs⟩
   ·have hle := List.drop_eq_nil_iff.1 hdr
    have hil : i = l0.length := by have := HLE.out; omega
    have ht : ((i : Int) == (l0.length : Int)) = true := by rw [← hil]; simp
    have hh : hdErr [0, 97, 115, 109, 1, 0, 0, 0] l0 0 = some ((i : Int), 4) := by rw [← HE.out, hdr, hcons]; rfl
    have HE2 := Aside0.mk hh
    clear hh hdr hcons hil hle hB2
    go_wp2
    go_ret3
    have h := HH.out
    unfold sect_Split.f at h
    simp only [HE2.out, Option.isSome_some, if_true, Option.some.injEq, Prod.mk.injEq, Option.getD_some] at h
    obtain ⟨rfl, rfl, rfl⟩ := h
    exact ⟨_, rfl, Kd.S_nil _ _ _ _ _, HB2.out⟩
   ·have hlt : i < l0.length := by
     have : (l0.drop i).length = xs.length + 1 := by rw [hdr]; rfl
     rw [List.length_drop] at this
     omega
    have hxr : rd l0 (i : Int) = x := by
     show l0.getD (i : Int).toNat 0 = x
     rw [Int.toNat_natCast, List.getD_eq_getElem?_getD, List.getElem?_eq_getElem hlt]
     rw [List.drop_eq_getElem_cons hlt] at hdr
     exact (List.cons.inj hdr).1
    have hxs : xs = l0.drop (i + 1) := by
     rw [List.drop_eq_getElem_cons hlt] at hdr
     exact (List.cons.inj hdr).2.symm
    obtain ⟨ad, e0, hcx⟩ := Kd.at_int HR0.out (i : Int) (by omega) (by omega)
    cases e0
    replace hcx := (hB2.cell (World.block_lt_of_cell? w _ hcx)).trans hcx
    have hf : ((i : Int) == (l0.length : Int)) = false := by rw [beq_eq_false_iff_ne]; omega
    have hha := head_at ⟨i, hi⟩
    simp only [] at hha
    have hg : ([0, 97, 115, 109, 1, 0, 0, 0] : List Int).getD i 0 = ([0, 97, 115, 109, 1, 0, 0, 0] : List Int)[i] := by rw [List.getD_eq_getElem?_getD, List.getElem?_eq_getElem hi]; rfl
    have hlt2 : (i : Int) < (l0.length : Int) := by omega
    have hix : ∀ W : World, (Instr.index 9 (.string ({ data := #[0, 97, 115, 109, 1, 0, 0, 0] } : ByteArray)) (.int .i64 (i : Int))).run Tryd.prog W = .ok (.int .u8 (([0, 97, 115, 109, 1, 0, 0, 0] : List Int)[i])) W := by
     intro W
     rw [run_index_string W 9 ({ data := #[0, 97, 115, 109, 1, 0, 0, 0] } : ByteArray) .i64 (i : Int) Tryd.underlying9, dif_pos (by rw [head_size]; omega)]
     simp only [Int.toNat_natCast]
     rw [hha, hg]
    rw [hxr] at hcx
    simp only [Int.toNat_natCast] at hcx
    by_cases hxh : x = ([0, 97, 115, 109, 1, 0, 0, 0] : List Int)[i]
    ·have hst : hdErr (([0, 97, 115, 109, 1, 0, 0, 0] : List Int).drop (i + 1)) (l0.drop (i + 1)) ((i + 1 : Nat) : Int) = hdErr [0, 97, 115, 109, 1, 0, 0, 0] l0 0 := by
      rw [← HE.out, hdr, hcons, hdErr, if_pos hxh, hxs]
      rfl
     have HST := Aside0.mk hst
     have hne : (x != ([0, 97, 115, 109, 1, 0, 0, 0] : List Int)[i]) = false := by rw [← hxh]; simp
     clear hst hxh hg hha hdr hcons hxs hxr hB2
     go_wp2
     go_region
     all_goals (try go_wp2)
     go_roundg k1
     case rel => exact ⟨i + 1, ⟨by have := HKI.out; omega⟩, ⟨HI2.out⟩, ⟨HB2.out.drew⟩, ⟨by omega⟩, ⟨HST.out⟩⟩
     case measure => exact Nat.lt_succ_self _
    ·have hh : hdErr [0, 97, 115, 109, 1, 0, 0, 0] l0 0 = some ((i : Int), 6) := by rw [← HE.out, hdr, hcons, hdErr, if_neg hxh]
     have HE2 := Aside0.mk hh
     have hne : (x != ([0, 97, 115, 109, 1, 0, 0, 0] : List Int)[i]) = true := by simpa using hxh
     clear hh hxh hg hha hdr hcons hxs hxr hB2
     go_wp2
     go_region
     all_goals (try go_wp2)
     go_ret3
     have h := HH.out
     unfold sect_Split.f at h
     simp only [HE2.out, Option.isSome_some, if_true, Option.some.injEq, Prod.mk.injEq, Option.getD_some] at h
     obtain ⟨rfl, rfl, rfl⟩ := h
     exact ⟨_, rfl, Kd.S_nil _ _ _ _ _, HB2.out.drew⟩

/-! ### mandrellaw06_sure: function 17: the contract is by hand -/
theorem C_lit (W : World) (b : Nat) (xs : List Int) (t : TypeId) (fr : Nat × Nat) (h : W.heap[b]? = some (.cells ((xs.map (Value.int .u8)).toArray) t fr)) (hn : xs.length ≤ 1000) : Kd.C (Kd.int .u8) W (some ⟨b, 0, none⟩) xs.length xs := by
 refine Kd.C_of_reads (d := (0 : Int)) (h1 := fun _ => rfl) ⟨rfl, by omega, fun _ => ⟨_, rfl, fun j hj => ?_⟩⟩
 have e1 : (⟨b, 0, none⟩ : Addr).add j = ⟨b, j, none⟩ := by unfold Addr.add; split <;> simp_all
 rw [e1, cell_of_row W b j _ t fr h]
 rw [List.getElem?_toArray, List.getElem?_map, List.getElem?_eq_getElem hj, List.getD_eq_getElem?_getD, List.getElem?_eq_getElem hj]
 rfl
def mandrellaw06_sure.f : Option Bool := some true
set_option maxHeartbeats 8000000 in
set_option maxRecDepth 100000 in
theorem mandrellaw06_sure.calls (r : Bool) (w : World) (h : mandrellaw06_sure.f = some r) : Calls Tryd.prog 17 #[] w fun e w' => e = .returned (.bool r) ∧ Below w.heap.size w w' := by
 obtain rfl : true = r := Option.some.inj h
 have hu25 := Tryd.underlying25
 have hu66 := Tryd.underlying66
 have kc := fun (w : World) (C : Array Value) (n c : Nat) => Lib.run_convert_bytes_const (P := Tryd.prog) w 22 5 C n c Tryd.underlying22 Tryd.underlying5
 have HC1 := Aside0.mk (C_lit (w.alloc (.cells (([0, 97, 115, 109, 1, 0, 0, 0, 1, 0] : List Int).map (Value.int .u8)).toArray 5 (10, 11))) w.heap.size [0, 97, 115, 109, 1, 0, 0, 0, 1, 0] 5 (10, 11) (heap_alloc_new w _) (by decide))
 have HB1 := Aside0.mk (below_alloc (Below.refl w.heap.size w) (.cells (([0, 97, 115, 109, 1, 0, 0, 0, 1, 0] : List Int).map (Value.int .u8)).toArray 5 (10, 11)))
 go_enter Tryd.func17, Tryd.ntmps17
 go_wp2_with (first
  | (go_at_call 18; refine (sect_Split.calls 100 (some ⟨w.heap.size, 0, none⟩) 10 [0, 97, 115, 109, 1, 0, 0, 0, 1, 0] [⟨1, 10, []⟩] 10 none _ HC1.out (by decide) (by kernel_rfl)).mono ?_; rintro e w2 ⟨v2, rfl, hS, hb⟩; have HB2 := Aside0.mk (below_step HB1.out hb); clear hb HB1 HC1; obtain ⟨Ao, co, eo⟩ := Kd.S_slice hS; subst eo; have HS := Aside0.mk hS; clear hS; obtain ⟨ad, A2, c2, ead, q0, q1, q2⟩ := at_T53 (Kd.S_reads' HS.out).2.2 0 (by decide) (by decide); cases ead; (try simp only [errW_none, errW_some]); have q3 : w2.cell? ad = some (.int .u8 1) := by { have h := q0; simp [rd_T53] at h; exact h }; have q4 : w2.cell? ⟨ad.block, ad.off + 1, none⟩ = some (.int .i64 10) := by { have h := q1; simp [rd_T53] at h; exact h }; clear q0 q1 q2; have HC3 := Aside0.mk (C_lit (w2.alloc (.cells (([97] : List Int).map (Value.int .u8)).toArray 5 (1, 2))) w2.heap.size [97] 5 (1, 2) (heap_alloc_new w2 _) (by decide)); have HB3 := Aside0.mk (below_alloc HB2.out (.cells (([97] : List Int).map (Value.int .u8)).toArray 5 (1, 2))))
  | (go_at_call 27; refine (sect_Text.calls 100 (fun k_ => k_ < (w2.alloc (.cells (([97] : List Int).map (Value.int .u8)).toArray 5 (1, 2))).heap.size) (some ⟨w2.heap.size, 0, none⟩) 1 [97] true _ (Kd.V_mk (by decide) (Kd.C_F (Kd.heap_int .u8) HC3.out)) (by kernel_rfl)).mono ?_; rintro e w4 ⟨rfl, hb⟩; have HB4 := Aside0.mk (below_step HB3.out hb); clear hb HB3 HC3; have HC5 := Aside0.mk (C_lit (w4.alloc (.cells (([255] : List Int).map (Value.int .u8)).toArray 5)) w4.heap.size [255] 5 (0, 0) (heap_alloc_new w4 _) (by decide)); have HB5 := Aside0.mk (below_alloc HB4.out (.cells (([255] : List Int).map (Value.int .u8)).toArray 5)))
  | (go_at_call 27; refine (sect_Text.calls 100 (fun k_ => k_ < (w4.alloc (.cells (([255] : List Int).map (Value.int .u8)).toArray 5)).heap.size) (some ⟨w4.heap.size, 0, none⟩) 1 [255] false _ (Kd.V_mk (by decide) (Kd.C_F (Kd.heap_int .u8) HC5.out)) (by kernel_rfl)).mono ?_; rintro e w6 ⟨rfl, hb⟩; have HB6 := Aside0.mk (below_step HB5.out hb); clear hb HB5 HC5))
 go_ret
 exact ⟨rfl, HB6.out⟩

end Go.Proofs.YtljmikfpknmnnaaDoor.XS
