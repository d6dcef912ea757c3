/- Functions of the Go program as Lean functions, and the proofs that the Go code answers as they do. Written by a program of this session. -/
import Derived.Test.YtolhijnkgkfjgaaSure
import Derived.Test.YtolhijnkgkfjgaaXCx0
namespace Go.Proofs.Ytolhijnkgkfjgaa.XC
open Go.RowKit Go.Proofs.YtolhijnkgkfjgaaW.PrintWords Go.Proofs.YtolhijnkgkfjgaaW.PrintLast Go.Proofs.YtolhijnkgkfjgaaW.PrintMore
attribute [local go_sem] max2_int min2_int max_two min_two max_three min_three max_four min_four   -- for this text's walks alone
set_option linter.unusedVariables false
set_option linter.unusedSimpArgs false

/-! scan_Assign: function 6: elsewhere -/

/-! ### scan_Cost: function 7 -/
def scan_Cost.l0 : Nat → List Int → Int → List (S28) → Int → Int → Option (Int)
  | 0, _, _, _, _, _ => none
  | k + 1, x1, x5, x8, x9, x10 => if x10 < x9 then (if 0 ≤ x10 then (if x10 < (x8.length : Int) then (if x10 < (x1.length : Int) then (if (rd x1 x10) ≥ 256 then (scan_Cost.l0 k x1 (mn 1099511627776 (wrap64 (x5 + (mn (mx ((rd_T28 x8 x10).f1) 0) 1099511627776)))) x8 x9 (wrap64 (x10 + 1))) else (scan_Cost.l0 k x1 x5 x8 x9 (wrap64 (x10 + 1)))) else (scan_Cost.l0 k x1 x5 x8 x9 (wrap64 (x10 + 1)))) else (none)) else (none)) else (some x5)
def scan_Cost.f (k : Nat) (l0 : List (S28)) (l1 : List Int) : Option (Int) := scan_Cost.l0 k l1 0 l0 (l0.length : Int) 0
theorem scan_Cost.mono_l : ∀ k, (∀ y0 y1 y2 y3 y4, LeO (scan_Cost.l0 k y0 y1 y2 y3 y4) (scan_Cost.l0 (k + 1) y0 y1 y2 y3 y4))
  | 0 => fun _ _ _ _ _ r h => by simp [scan_Cost.l0] at h
  | k + 1 => by
    have ih0 := scan_Cost.mono_l k
    · intro y0 y1 y2 y3 y4
      unfold scan_Cost.l0
      repeat' first
      | (with_reducible exact ih0 _ _ _ _ _)
      | (with_reducible exact LeO.refl _)
      | (with_reducible exact LeO.none _)
      | (with_reducible refine LeO.ite ?_ ?_)
      | (with_reducible refine LeO.bind ?_ (fun _ => ?_))
      | exact ih0 _ _ _ _ _
      | exact LeO.none _
      | refine LeO.ite ?_ ?_
      | refine LeO.bind ?_ (fun _ => ?_)
theorem scan_Cost.mono : ∀ a0 a1 k, LeO (scan_Cost.f k a0 a1) (scan_Cost.f (k + 1) a0 a1) := by
  intro a0 a1 k
  have ih0 := scan_Cost.mono_l k
  unfold scan_Cost.f
  repeat' first
      | (with_reducible exact ih0 _ _ _ _ _)
      | (with_reducible exact LeO.refl _)
      | (with_reducible exact LeO.none _)
      | (with_reducible refine LeO.ite ?_ ?_)
      | (with_reducible refine LeO.bind ?_ (fun _ => ?_))
      | exact ih0 _ _ _ _ _
      | exact LeO.none _
      | refine LeO.ite ?_ ?_
      | refine LeO.bind ?_ (fun _ => ?_)
set_option maxHeartbeats 8000000 in
set_option maxRecDepth 100000 in
theorem scan_Cost.calls (k : Nat) (A0 : Option Addr) (c0 : Nat) (l0 : List (S28)) (A1 : Option Addr) (c1 : Nat) (l1 : List Int) (r : Int) (w : World) (hr0 : Kd.C k28 w A0 l0.length l0) (hc0 : l0.length ≤ c0) (hr1 : Kd.C (Kd.int .i64) w A1 l1.length l1) (hc1 : l1.length ≤ c1) (h : scan_Cost.f k l0 l1 = some r) :
    Calls Try.prog 7 #[.slice A0 l0.length c0, .slice A1 l1.length c1] w fun e w' => e = .returned (.int .i64 r) ∧ Below w.heap.size w w' := by
  have hu28 := Try.underlying28
  have HR0 := Aside0.mk hr0
  have HC0 := Aside0.mk hc0
  clear hr0 hc0
  have HR1 := Aside0.mk hr1
  have HC1 := Aside0.mk hc1
  clear hr1 hc1
  have HB := Aside0.mk (Below.refl w.heap.size w)
  have H : (scan_Cost.l0 k l1 0 l0 (l0.length : Int) 0) = some r := h
  clear h
  have H' := Aside0.mk H
  clear H
  go_enter Try.func7, Try.ntmps7
  go_wp2
  go_loopg [5, 10] k (fun kq v5 v10 w' => ∃ (x5_1 : Int) (x10_1 : Int), v5 = .int .i64 x5_1 ∧ v10 = .int .i64 x10_1 ∧ Aside0 (scan_Cost.l0 kq l1 x5_1 l0 (l0.length : Int) x10_1 = some r) ∧ Aside0 (kq ≤ k) ∧ Aside0 (Below w.heap.size w w'))
  case atStart => exact ⟨(0), (0), (by first | rfl | (simp; done) | (simp [*]; done)), (by first | rfl | (simp; done) | (simp [*]; done)), H', ⟨Nat.le_refl _⟩, ⟨by repeat (first | (with_reducible first | exact HB.out | apply below_alloc | apply pw_below_drewN | apply below_drew1) | exact HB.out)⟩⟩
  case round =>
    clear H'
    try clear c1
    try clear p2
    obtain ⟨x5_1, x10_1, rfl, rfl, HA, HK1, HB⟩ := hrel
    cases gk with
    | zero => exact absurd HA.out (by simp [scan_Cost.l0])
    | succ k1 =>
      have H := HA.out
      clear HA
      simp only [scan_Cost.l0] at H
      by_cases c3 : x10_1 < (l0.length : Int)
      · rw [if_pos c3] at H
        have c3b0 : decide (x10_1 < (l0.length : Int)) = true := decide_eq_true c3
        clear c3
        by_cases c4 : 0 ≤ x10_1
        · rw [if_pos c4] at H
          have c4b0 : decide (0 ≤ x10_1) = true := decide_eq_true c4
          clear c4
          by_cases c5 : x10_1 < (l0.length : Int)
          · rw [if_pos c5] at H
            have c5b0 : decide (x10_1 < (l0.length : Int)) = true := decide_eq_true c5
            clear c5
            by_cases c6 : x10_1 < (l1.length : Int)
            · rw [if_pos c6] at H
              have c6b0 : decide (x10_1 < (l1.length : Int)) = true := decide_eq_true c6
              clear c6
              by_cases c7 : (rd l1 x10_1) ≥ 256
              · rw [if_pos c7] at H
                have c7b0 : decide (256 ≤ (rd l1 x10_1)) = true := decide_eq_true c7
                clear c7
                obtain ⟨ji8, hji8⟩ : ∃ j_ : Int, (mx ((rd_T28 l0 x10_1).f1) 0) = j_ := ⟨_, rfl⟩
                replace H : (scan_Cost.l0 k1 l1 (mn 1099511627776 (wrap64 (x5_1 + (mn (ji8) 1099511627776)))) l0 (l0.length : Int) (wrap64 (x10_1 + 1))) = some r := by first | (rw [hji8] at H; exact H) | (simp only [hji8] at H ⊢; exact H)
                have hji8_ : (if ((rd_T28 l0 x10_1).f1) < 0 then 0 else ((rd_T28 l0 x10_1).f1)) = ji8 := hji8
                obtain ⟨ji9, hji9⟩ : ∃ j_ : Int, (mn (ji8) 1099511627776) = j_ := ⟨_, rfl⟩
                replace H : (scan_Cost.l0 k1 l1 (mn 1099511627776 (wrap64 (x5_1 + (ji9)))) l0 (l0.length : Int) (wrap64 (x10_1 + 1))) = some r := by first | (rw [hji9] at H; exact H) | (simp only [hji9] at H ⊢; exact H)
                have hji9_ : (if 1099511627776 < (ji8) then 1099511627776 else (ji8)) = ji9 := hji9
                obtain ⟨ji10, hji10⟩ : ∃ j_ : Int, (mn 1099511627776 (wrap64 (x5_1 + (ji9)))) = j_ := ⟨_, rfl⟩
                replace H : (scan_Cost.l0 k1 l1 ji10 l0 (l0.length : Int) (wrap64 (x10_1 + 1))) = some r := by first | (rw [hji10] at H; exact H) | (simp only [hji10] at H ⊢; exact H)
                have hji10_ : (if (wrap64 (x5_1 + (ji9))) < 1099511627776 then (wrap64 (x5_1 + (ji9))) else 1099511627776) = ji10 := hji10
                have H' := Aside0.mk H
                clear H
                have p101 : 0 ≤ (x10_1 : Int) := of_decide_eq_true (by first | (with_reducible assumption) | assumption)
                have q101 : x10_1 < (l0.length : Int) := of_decide_eq_true (by first | (with_reducible assumption) | assumption)
                obtain ⟨ad101, A101_0, c101_0, e101, hx101_0, hx101_1, hl101_0, hi101_0⟩ := at_T28 HR0.out x10_1 p101 q101
                cases e101
                replace hx101_0 := (HB.out.cell (World.block_lt_of_cell? w _ hx101_0)).trans hx101_0
                replace hx101_1 := (HB.out.cell (World.block_lt_of_cell? w _ hx101_1)).trans hx101_1
                have HR101_0 := Aside0.mk hi101_0
                have HC101_0 := Aside0.mk hl101_0
                clear hi101_0 hl101_0
                replace p101 := eq_true p101
                replace q101 := eq_true q101
                go_wp2_with (first | ((with_reducible refine gate_dst (N := 7) rfl ?_); refine box_event ?hg (N := 7) ?hd (cs := #[.slice none 0 0, .int .i64 0]) (t := 28) ?hr ?_; (case hd => rfl); (case hg => rfl); (case hr => first | (go_simp; done) | (go_simp; rfl)); intro gb102 hg w11 hbox hb; have n0_ := Aside0.mk (below_step (by repeat (first | (with_reducible first | exact HB.out | apply below_alloc | apply pw_below_drewN | apply below_drew1) | exact HB.out)) hb); have n1_ := Aside0.mk (hbox); have n2_ := Aside0.mk ((by rw [hg]; exact (below_size (by repeat (first | (with_reducible first | exact HB.out | apply below_alloc | apply pw_below_drewN | apply below_drew1) | exact HB.out))) : w.heap.size ≤ gb102)); have n3_ := Aside0.mk ((by rw [hg]; exact (below_size (by repeat (first | (with_reducible first | exact HB.out | apply below_alloc | apply pw_below_drewN | apply below_drew1) | exact HB.out))) : w.heap.size ≤ gb102)); clear HB; have HB := n0_; have BK102 := n1_; have GW102 := n2_; have GE102 := n3_; clear n0_ n1_ n2_ n3_; clear hb hbox hg; have hcz12_0 : w11.cell? ⟨gb102, 0, none⟩ = some (.slice none 0 0) := (blk_cell BK102.out 0).trans rfl; have hcz12_1 : w11.cell? ⟨gb102, 1, none⟩ = some (.int .i64 0) := (blk_cell BK102.out 1).trans rfl; have hfz12_0 := blk_frozen BK102.out 0; have hfz12_1 := blk_frozen BK102.out 1; have p103 : 0 ≤ (x10_1 : Int) := of_decide_eq_true (by first | (with_reducible assumption) | assumption); have q103 : x10_1 < (l1.length : Int) := of_decide_eq_true (by first | (with_reducible assumption) | assumption); obtain ⟨ad103, e103, hx103_0⟩ := Kd.at_int HR1.out x10_1 p103 q103; cases e103; have hn103_0 : ad103.block ≠ gb102 := Nat.ne_of_lt (Nat.lt_of_lt_of_le (by have := World.block_lt_of_cell? _ _ hx103_0; first | rwa [add_block] at this | exact this) GW102.out); have hn103_1 : ad103.block ≠ gb102 := Nat.ne_of_lt (Nat.lt_of_lt_of_le (by have := World.block_lt_of_cell? _ _ hx103_0; first | rwa [add_block] at this | exact this) GW102.out); replace hx103_0 := (HB.out.cell (World.block_lt_of_cell? w _ hx103_0)).trans hx103_0; replace hx103_0 := (cell_far (p := ⟨gb102, 0, none⟩) (by first | (rw [add_block]; exact hn103_0) | (show (Addr.add _ _).block ≠ _; rw [add_block]; exact hn103_0) | exact hn103_0) (.slice A101_0 ((rd_T28 l0 x10_1).f0).length c101_0)).trans hx103_0; replace hx103_0 := (cell_far (p := ⟨gb102, 1, none⟩) (by first | (rw [add_block]; exact hn103_1) | (show (Addr.add _ _).block ≠ _; rw [add_block]; exact hn103_1) | exact hn103_1) (.int .i64 ((rd_T28 l0 x10_1).f1))).trans hx103_0; clear hn103_0; clear hn103_1; replace p103 := eq_true p103; replace q103 := eq_true q103))
                go_roundg k1
                case measure => have := HK1.out; omega
                case rel => exact ⟨(ji10), (wrap64 (x10_1 + 1)), (by first | rfl | (simp; done) | (simp only [← hji10] <;> (first | rfl | simp)) | (simp [*]; done)), (by first | rfl | (simp; done) | (simp [*]; done)), H', ⟨by have := HK1.out; omega⟩, ⟨by repeat (first | (with_reducible first | exact HB.out | apply below_alloc | apply pw_below_drewN | apply below_drew1 | refine below_set ?_ GE102.out) | exact HB.out)⟩⟩
              · rw [if_neg c7] at H
                have c7b0 : decide (256 ≤ (rd l1 x10_1)) = false := decide_eq_false c7
                clear c7
                have H' := Aside0.mk H
                clear H
                have p101 : 0 ≤ (x10_1 : Int) := of_decide_eq_true (by first | (with_reducible assumption) | assumption)
                have q101 : x10_1 < (l0.length : Int) := of_decide_eq_true (by first | (with_reducible assumption) | assumption)
                obtain ⟨ad101, A101_0, c101_0, e101, hx101_0, hx101_1, hl101_0, hi101_0⟩ := at_T28 HR0.out x10_1 p101 q101
                cases e101
                replace hx101_0 := (HB.out.cell (World.block_lt_of_cell? w _ hx101_0)).trans hx101_0
                replace hx101_1 := (HB.out.cell (World.block_lt_of_cell? w _ hx101_1)).trans hx101_1
                have HR101_0 := Aside0.mk hi101_0
                have HC101_0 := Aside0.mk hl101_0
                clear hi101_0 hl101_0
                replace p101 := eq_true p101
                replace q101 := eq_true q101
                go_wp2_with (first | ((with_reducible refine gate_dst (N := 7) rfl ?_); refine box_event ?hg (N := 7) ?hd (cs := #[.slice none 0 0, .int .i64 0]) (t := 28) ?hr ?_; (case hd => rfl); (case hg => rfl); (case hr => first | (go_simp; done) | (go_simp; rfl)); intro gb102 hg w13 hbox hb; have n0_ := Aside0.mk (below_step (by repeat (first | (with_reducible first | exact HB.out | apply below_alloc | apply pw_below_drewN | apply below_drew1) | exact HB.out)) hb); have n1_ := Aside0.mk (hbox); have n2_ := Aside0.mk ((by rw [hg]; exact (below_size (by repeat (first | (with_reducible first | exact HB.out | apply below_alloc | apply pw_below_drewN | apply below_drew1) | exact HB.out))) : w.heap.size ≤ gb102)); have n3_ := Aside0.mk ((by rw [hg]; exact (below_size (by repeat (first | (with_reducible first | exact HB.out | apply below_alloc | apply pw_below_drewN | apply below_drew1) | exact HB.out))) : w.heap.size ≤ gb102)); clear HB; have HB := n0_; have BK102 := n1_; have GW102 := n2_; have GE102 := n3_; clear n0_ n1_ n2_ n3_; clear hb hbox hg; have hcz14_0 : w13.cell? ⟨gb102, 0, none⟩ = some (.slice none 0 0) := (blk_cell BK102.out 0).trans rfl; have hcz14_1 : w13.cell? ⟨gb102, 1, none⟩ = some (.int .i64 0) := (blk_cell BK102.out 1).trans rfl; have hfz14_0 := blk_frozen BK102.out 0; have hfz14_1 := blk_frozen BK102.out 1; have p103 : 0 ≤ (x10_1 : Int) := of_decide_eq_true (by first | (with_reducible assumption) | assumption); have q103 : x10_1 < (l1.length : Int) := of_decide_eq_true (by first | (with_reducible assumption) | assumption); obtain ⟨ad103, e103, hx103_0⟩ := Kd.at_int HR1.out x10_1 p103 q103; cases e103; have hn103_0 : ad103.block ≠ gb102 := Nat.ne_of_lt (Nat.lt_of_lt_of_le (by have := World.block_lt_of_cell? _ _ hx103_0; first | rwa [add_block] at this | exact this) GW102.out); have hn103_1 : ad103.block ≠ gb102 := Nat.ne_of_lt (Nat.lt_of_lt_of_le (by have := World.block_lt_of_cell? _ _ hx103_0; first | rwa [add_block] at this | exact this) GW102.out); replace hx103_0 := (HB.out.cell (World.block_lt_of_cell? w _ hx103_0)).trans hx103_0; replace hx103_0 := (cell_far (p := ⟨gb102, 0, none⟩) (by first | (rw [add_block]; exact hn103_0) | (show (Addr.add _ _).block ≠ _; rw [add_block]; exact hn103_0) | exact hn103_0) (.slice A101_0 ((rd_T28 l0 x10_1).f0).length c101_0)).trans hx103_0; replace hx103_0 := (cell_far (p := ⟨gb102, 1, none⟩) (by first | (rw [add_block]; exact hn103_1) | (show (Addr.add _ _).block ≠ _; rw [add_block]; exact hn103_1) | exact hn103_1) (.int .i64 ((rd_T28 l0 x10_1).f1))).trans hx103_0; clear hn103_0; clear hn103_1; replace p103 := eq_true p103; replace q103 := eq_true q103))
                go_roundg k1
                case measure => have := HK1.out; omega
                case rel => exact ⟨(x5_1), (wrap64 (x10_1 + 1)), (by first | rfl | (simp; done) | (simp [*]; done)), (by first | rfl | (simp; done) | (simp [*]; done)), H', ⟨by have := HK1.out; omega⟩, ⟨by repeat (first | (with_reducible first | exact HB.out | apply below_alloc | apply pw_below_drewN | apply below_drew1 | refine below_set ?_ GE102.out) | exact HB.out)⟩⟩
            · rw [if_neg c6] at H
              have c6b0 : decide (x10_1 < (l1.length : Int)) = false := decide_eq_false c6
              clear c6
              have H' := Aside0.mk H
              clear H
              have p101 : 0 ≤ (x10_1 : Int) := of_decide_eq_true (by first | (with_reducible assumption) | assumption)
              have q101 : x10_1 < (l0.length : Int) := of_decide_eq_true (by first | (with_reducible assumption) | assumption)
              obtain ⟨ad101, A101_0, c101_0, e101, hx101_0, hx101_1, hl101_0, hi101_0⟩ := at_T28 HR0.out x10_1 p101 q101
              cases e101
              replace hx101_0 := (HB.out.cell (World.block_lt_of_cell? w _ hx101_0)).trans hx101_0
              replace hx101_1 := (HB.out.cell (World.block_lt_of_cell? w _ hx101_1)).trans hx101_1
              have HR101_0 := Aside0.mk hi101_0
              have HC101_0 := Aside0.mk hl101_0
              clear hi101_0 hl101_0
              replace p101 := eq_true p101
              replace q101 := eq_true q101
              go_wp2_with (first | ((with_reducible refine gate_dst (N := 7) rfl ?_); refine box_event ?hg (N := 7) ?hd (cs := #[.slice none 0 0, .int .i64 0]) (t := 28) ?hr ?_; (case hd => rfl); (case hg => rfl); (case hr => first | (go_simp; done) | (go_simp; rfl)); intro gb102 hg w15 hbox hb; have n0_ := Aside0.mk (below_step (by repeat (first | (with_reducible first | exact HB.out | apply below_alloc | apply pw_below_drewN | apply below_drew1) | exact HB.out)) hb); have n1_ := Aside0.mk (hbox); have n2_ := Aside0.mk ((by rw [hg]; exact (below_size (by repeat (first | (with_reducible first | exact HB.out | apply below_alloc | apply pw_below_drewN | apply below_drew1) | exact HB.out))) : w.heap.size ≤ gb102)); have n3_ := Aside0.mk ((by rw [hg]; exact (below_size (by repeat (first | (with_reducible first | exact HB.out | apply below_alloc | apply pw_below_drewN | apply below_drew1) | exact HB.out))) : w.heap.size ≤ gb102)); clear HB; have HB := n0_; have BK102 := n1_; have GW102 := n2_; have GE102 := n3_; clear n0_ n1_ n2_ n3_; clear hb hbox hg; have hcz16_0 : w15.cell? ⟨gb102, 0, none⟩ = some (.slice none 0 0) := (blk_cell BK102.out 0).trans rfl; have hcz16_1 : w15.cell? ⟨gb102, 1, none⟩ = some (.int .i64 0) := (blk_cell BK102.out 1).trans rfl; have hfz16_0 := blk_frozen BK102.out 0; have hfz16_1 := blk_frozen BK102.out 1))
              go_roundg k1
              case measure => have := HK1.out; omega
              case rel => exact ⟨(x5_1), (wrap64 (x10_1 + 1)), (by first | rfl | (simp; done) | (simp [*]; done)), (by first | rfl | (simp; done) | (simp [*]; done)), H', ⟨by have := HK1.out; omega⟩, ⟨by repeat (first | (with_reducible first | exact HB.out | apply below_alloc | apply pw_below_drewN | apply below_drew1 | refine below_set ?_ GE102.out) | exact HB.out)⟩⟩
          · rw [if_neg c5] at H
            exact absurd H (by simp)
        · rw [if_neg c4] at H
          exact absurd H (by simp)
      · rw [if_neg c3] at H
        have c3b0 : decide (x10_1 < (l0.length : Int)) = false := decide_eq_false c3
        clear c3
        obtain rfl := Option.some.inj H
        go_wp2
        go_ret
        exact ⟨by first | rfl | (simp [errW_none, errW_some] <;> rfl) | (simp [*, errW_none, errW_some] <;> rfl), by repeat (first | (with_reducible first | exact HB.out | apply below_alloc | apply pw_below_drewN | apply below_drew1) | exact HB.out)⟩

/-! mandrellaw19_sure: function 8: by hand, elsewhere -/

/-! ### mandrellaw19_ScanApart: function 3 -/
mutual
def mandrellaw19_ScanApart.l0 : Nat → Int → Int → Int → List (S28) → Int → Option (Bool)
  | 0, _, _, _, _, _ => none
  | k + 1, x7, x8, x9, x10, x11 => if x11 < x7 then (if x10.length < 4398046511104 then (mandrellaw19_ScanApart.l0 k x7 x8 x9 (x10 ++ [(⟨(([(⟨wrap64 ((wrap64 ((wrap64 (x7 - x11)) * 3)) * (wrap64 (x9 + 3))), wrap64 ((wrap64 ((wrap64 ((wrap64 (x7 - x11)) * 3)) * (wrap64 (x9 + 3)))) + x9)⟩ : S25)] : List (S25))), x11⟩ : S28)]) (wrap64 (x11 + 1))) else (none)) else ((scan_Assign.f k x10 x8).bind fun bt110 => (if bt110.2.2.isNone = true then (if bt110.2.1 = 0 then (if (bt110.1.length : Int) = x7 then ((scan_Cost.f k x10 bt110.1).bind fun t116 => (mandrellaw19_ScanApart.j1 k x7 x8 bt110.1 (t116 != 0))) else (mandrellaw19_ScanApart.j1 k x7 x8 bt110.1 true)) else (mandrellaw19_ScanApart.j1 k x7 x8 bt110.1 true)) else (mandrellaw19_ScanApart.j1 k x7 x8 bt110.1 true)))
def mandrellaw19_ScanApart.j1 : Nat → Int → Int → List Int → Bool → Option (Bool)
  | 0, _, _, _, _ => none
  | k + 1, x7, x8, x13, x78 => if x78 = true then (some false) else (mandrellaw19_ScanApart.l1 k x7 x8 x13 0)
def mandrellaw19_ScanApart.l1 : Nat → Int → Int → List Int → Int → Option (Bool)
  | 0, _, _, _, _ => none
  | k + 1, x7, x8, x13, x16 => if x16 < x7 then (if 0 ≤ x16 then (if x16 < (x13.length : Int) then (if (rd x13 x16) < 0 then (some false) else (if (rd x13 x16) ≥ x8 then (some false) else (mandrellaw19_ScanApart.l1 k x7 x8 x13 (wrap64 (x16 + 1))))) else (none)) else (none)) else ((mandrellaw19_sure.f).bind fun t119 => (some t119))
end
def mandrellaw19_ScanApart.f (k : Nat) (a0 : Int) (a1 : Int) (a2 : Int) : Option (Bool) := mandrellaw19_ScanApart.l0 k (wrap64 (Int.tmod (IntKind.u64.wrap (a0)) 50)) (wrap64 (1 + (wrap64 (Int.tmod (IntKind.u64.wrap (a1)) 32)))) (wrap64 (1 + (wrap64 (Int.tmod (IntKind.u64.wrap (a2)) 5)))) ([] : List (S28)) 0
theorem mandrellaw19_ScanApart.mono_l : ∀ k, (∀ y0 y1 y2 y3 y4, LeO (mandrellaw19_ScanApart.l0 k y0 y1 y2 y3 y4) (mandrellaw19_ScanApart.l0 (k + 1) y0 y1 y2 y3 y4)) ∧ (∀ y0 y1 y2 y3, LeO (mandrellaw19_ScanApart.j1 k y0 y1 y2 y3) (mandrellaw19_ScanApart.j1 (k + 1) y0 y1 y2 y3)) ∧ (∀ y0 y1 y2 y3, LeO (mandrellaw19_ScanApart.l1 k y0 y1 y2 y3) (mandrellaw19_ScanApart.l1 (k + 1) y0 y1 y2 y3))
  | 0 => ⟨fun _ _ _ _ _ r h => by simp [mandrellaw19_ScanApart.l0] at h, fun _ _ _ _ r h => by simp [mandrellaw19_ScanApart.j1] at h, fun _ _ _ _ r h => by simp [mandrellaw19_ScanApart.l1] at h⟩
  | k + 1 => by
    obtain ⟨ih0, ih1, ih2⟩ := mandrellaw19_ScanApart.mono_l k
    refine ⟨?_, ?_, ?_⟩
    · intro y0 y1 y2 y3 y4
      unfold mandrellaw19_ScanApart.l0
      repeat' first
      | (with_reducible exact ih0 _ _ _ _ _)
      | (with_reducible exact ih1 _ _ _ _)
      | (with_reducible exact ih2 _ _ _ _)
      | (with_reducible exact scan_Assign.mono _ _ _)
      | (with_reducible exact scan_Cost.mono _ _ _)
      | (with_reducible exact LeO.refl _)
      | (with_reducible exact LeO.none _)
      | (with_reducible refine LeO.ite ?_ ?_)
      | (with_reducible refine LeO.bind ?_ (fun _ => ?_))
      | exact ih0 _ _ _ _ _
      | exact ih1 _ _ _ _
      | exact ih2 _ _ _ _
      | exact scan_Assign.mono _ _ _
      | exact scan_Cost.mono _ _ _
      | exact LeO.none _
      | refine LeO.ite ?_ ?_
      | refine LeO.bind ?_ (fun _ => ?_)
    · intro y0 y1 y2 y3
      unfold mandrellaw19_ScanApart.j1
      repeat' first
      | (with_reducible exact ih0 _ _ _ _ _)
      | (with_reducible exact ih1 _ _ _ _)
      | (with_reducible exact ih2 _ _ _ _)
      | (with_reducible exact scan_Assign.mono _ _ _)
      | (with_reducible exact scan_Cost.mono _ _ _)
      | (with_reducible exact LeO.refl _)
      | (with_reducible exact LeO.none _)
      | (with_reducible refine LeO.ite ?_ ?_)
      | (with_reducible refine LeO.bind ?_ (fun _ => ?_))
      | exact ih0 _ _ _ _ _
      | exact ih1 _ _ _ _
      | exact ih2 _ _ _ _
      | exact scan_Assign.mono _ _ _
      | exact scan_Cost.mono _ _ _
      | exact LeO.none _
      | refine LeO.ite ?_ ?_
      | refine LeO.bind ?_ (fun _ => ?_)
    · intro y0 y1 y2 y3
      unfold mandrellaw19_ScanApart.l1
      repeat' first
      | (with_reducible exact ih0 _ _ _ _ _)
      | (with_reducible exact ih1 _ _ _ _)
      | (with_reducible exact ih2 _ _ _ _)
      | (with_reducible exact scan_Assign.mono _ _ _)
      | (with_reducible exact scan_Cost.mono _ _ _)
      | (with_reducible exact LeO.refl _)
      | (with_reducible exact LeO.none _)
      | (with_reducible refine LeO.ite ?_ ?_)
      | (with_reducible refine LeO.bind ?_ (fun _ => ?_))
      | exact ih0 _ _ _ _ _
      | exact ih1 _ _ _ _
      | exact ih2 _ _ _ _
      | exact scan_Assign.mono _ _ _
      | exact scan_Cost.mono _ _ _
      | exact LeO.none _
      | refine LeO.ite ?_ ?_
      | refine LeO.bind ?_ (fun _ => ?_)
theorem mandrellaw19_ScanApart.mono : ∀ a0 a1 a2 k, LeO (mandrellaw19_ScanApart.f k a0 a1 a2) (mandrellaw19_ScanApart.f (k + 1) a0 a1 a2) := by
  intro a0 a1 a2 k
  obtain ⟨ih0, ih1, ih2⟩ := mandrellaw19_ScanApart.mono_l k
  unfold mandrellaw19_ScanApart.f
  repeat' first
      | (with_reducible exact ih0 _ _ _ _ _)
      | (with_reducible exact ih1 _ _ _ _)
      | (with_reducible exact ih2 _ _ _ _)
      | (with_reducible exact scan_Assign.mono _ _ _)
      | (with_reducible exact scan_Cost.mono _ _ _)
      | (with_reducible exact LeO.refl _)
      | (with_reducible exact LeO.none _)
      | (with_reducible refine LeO.ite ?_ ?_)
      | (with_reducible refine LeO.bind ?_ (fun _ => ?_))
      | exact ih0 _ _ _ _ _
      | exact ih1 _ _ _ _
      | exact ih2 _ _ _ _
      | exact scan_Assign.mono _ _ _
      | exact scan_Cost.mono _ _ _
      | exact LeO.none _
      | refine LeO.ite ?_ ?_
      | refine LeO.bind ?_ (fun _ => ?_)
set_option maxHeartbeats 8000000 in
set_option maxRecDepth 100000 in
theorem mandrellaw19_ScanApart.calls (k : Nat) (a0 : Int) (a1 : Int) (a2 : Int) (r : Bool) (w : World) (h : mandrellaw19_ScanApart.f k a0 a1 a2 = some r) :
    Calls Try.prog 3 #[.int .i64 a0, .int .i64 a1, .int .i64 a2] w fun e w' => e = .returned (.bool r) ∧ Below w.heap.size w w' := by
  have hu25 := Try.underlying25
  have hu28 := Try.underlying28
  have hu31 := Try.underlying31
  have HB := Aside0.mk (Below.refl w.heap.size w)
  have H : (mandrellaw19_ScanApart.l0 k (wrap64 (Int.tmod (IntKind.u64.wrap (a0)) 50)) (wrap64 (1 + (wrap64 (Int.tmod (IntKind.u64.wrap (a1)) 32)))) (wrap64 (1 + (wrap64 (Int.tmod (IntKind.u64.wrap (a2)) 5)))) ([] : List (S28)) 0) = some r := h
  clear h
  have H' := Aside0.mk H
  clear H
  go_enter Try.func3, Try.ntmps3
  go_wp2
  go_loopg [10, 11] k (fun kq v10 v11 w' => ∃ (x10_1 : List (S28)) (x11_1 : Int), v11 = .int .i64 x11_1 ∧ Aside0 (mandrellaw19_ScanApart.l0 kq (wrap64 (Int.tmod (IntKind.u64.wrap (a0)) 50)) (wrap64 (1 + (wrap64 (Int.tmod (IntKind.u64.wrap (a1)) 32)))) (wrap64 (1 + (wrap64 (Int.tmod (IntKind.u64.wrap (a2)) 5)))) x10_1 x11_1 = some r) ∧ Aside0 (kq ≤ k) ∧ Aside0 (Kd.S k28 28 w' w.heap.size (fun _ => True) v10 x10_1) ∧ Aside0 (Below w.heap.size w w'))
  case atStart => exact ⟨(([] : List (S28))), (0), (by first | rfl | (simp; done) | (simp [*]; done)), H', ⟨Nat.le_refl _⟩, ⟨by first | exact Kd.S_nil _ _ _ _ _ | exact Kd.N_nil _ _ _ _ _ | exact Kd.V_nil _ _ _ _ _ | exact Kd.Q_nil _ _ _ _ _ | exact Kd.R_nil _ _ _ _ _⟩, ⟨by repeat (first | (with_reducible first | exact HB.out | apply below_alloc | apply pw_below_drewN | apply below_drew1) | exact HB.out)⟩⟩
  case round =>
    clear H'
    try clear p2
    try clear c3
    obtain ⟨x10_1, x11_1, rfl, HA, HK1, HO_10, HB⟩ := hrel
    cases gk with
    | zero => exact absurd HA.out (by simp [mandrellaw19_ScanApart.l0])
    | succ k1 =>
      have H := HA.out
      clear HA
      simp only [mandrellaw19_ScanApart.l0] at H
      by_cases c4 : x11_1 < (wrap64 (Int.tmod (IntKind.u64.wrap (a0)) 50))
      · rw [if_pos c4] at H
        have c4b0 : decide (x11_1 < (wrap64 (Int.tmod (IntKind.u64.wrap (a0)) 50))) = true := decide_eq_true c4
        clear c4
        obtain ⟨y104, hy104⟩ : ∃ y_ : List (S25), y_ = (([(⟨wrap64 ((wrap64 ((wrap64 ((wrap64 (Int.tmod (IntKind.u64.wrap (a0)) 50)) - x11_1)) * 3)) * (wrap64 ((wrap64 (1 + (wrap64 (Int.tmod (IntKind.u64.wrap (a2)) 5)))) + 3))), wrap64 ((wrap64 ((wrap64 ((wrap64 ((wrap64 (Int.tmod (IntKind.u64.wrap (a0)) 50)) - x11_1)) * 3)) * (wrap64 ((wrap64 (1 + (wrap64 (Int.tmod (IntKind.u64.wrap (a2)) 5)))) + 3)))) + (wrap64 (1 + (wrap64 (Int.tmod (IntKind.u64.wrap (a2)) 5)))))⟩ : S25)] : List (S25))) := ⟨_, rfl⟩
        replace H : (if x10_1.length < 4398046511104 then (mandrellaw19_ScanApart.l0 k1 (wrap64 (Int.tmod (IntKind.u64.wrap (a0)) 50)) (wrap64 (1 + (wrap64 (Int.tmod (IntKind.u64.wrap (a1)) 32)))) (wrap64 (1 + (wrap64 (Int.tmod (IntKind.u64.wrap (a2)) 5)))) (x10_1 ++ [(⟨y104, x11_1⟩ : S28)]) (wrap64 (x11_1 + 1))) else (none)) = some r := by first | (rw [hy104]; with_reducible exact H) | (have H2_ := (Option.bind_some _ _).symm.trans H; rw [hy104]; with_reducible exact H2_) | (have H2_ := (Option.bind_some _ _).symm.trans H; with_reducible exact H2_) | with_reducible exact H | (rw [hy104]; exact H) | exact H
        have Ny104 := Aside0.mk hy104
        clear hy104
        by_cases c5 : x10_1.length < 4398046511104
        · rw [if_pos c5] at H
          have LMc5 := Aside0.mk c5
          clear c5
          obtain ⟨y107, hy107⟩ : ∃ y_ : List (S28), y_ = (x10_1 ++ [(⟨y104, x11_1⟩ : S28)]) := ⟨_, rfl⟩
          replace H : (mandrellaw19_ScanApart.l0 k1 (wrap64 (Int.tmod (IntKind.u64.wrap (a0)) 50)) (wrap64 (1 + (wrap64 (Int.tmod (IntKind.u64.wrap (a1)) 32)))) (wrap64 (1 + (wrap64 (Int.tmod (IntKind.u64.wrap (a2)) 5)))) y107 (wrap64 (x11_1 + 1))) = some r := by first | (rw [hy107]; with_reducible exact H) | (have H2_ := (Option.bind_some _ _).symm.trans H; rw [hy107]; with_reducible exact H2_) | (have H2_ := (Option.bind_some _ _).symm.trans H; with_reducible exact H2_) | with_reducible exact H | (rw [hy107]; exact H) | exact H
          have Ny107 := Aside0.mk hy107
          clear hy107
          have H' := Aside0.mk H
          clear H
          go_wp2_with (first | ((with_reducible refine gate_dst (N := 49) rfl ?_); (try (refine gate_guard (by rfl) ?_; dsimp only)); refine Kd.R_lit k25 _ 25 ?hg (N := 49) ?hd (xs := ([(⟨wrap64 ((wrap64 ((wrap64 ((wrap64 (Int.tmod (IntKind.u64.wrap (a0)) 50)) - x11_1)) * 3)) * (wrap64 ((wrap64 (1 + (wrap64 (Int.tmod (IntKind.u64.wrap (a2)) 5)))) + 3))), wrap64 ((wrap64 ((wrap64 ((wrap64 ((wrap64 (Int.tmod (IntKind.u64.wrap (a0)) 50)) - x11_1)) * 3)) * (wrap64 ((wrap64 (1 + (wrap64 (Int.tmod (IntKind.u64.wrap (a2)) 5)))) + 3)))) + (wrap64 (1 + (wrap64 (Int.tmod (IntKind.u64.wrap (a2)) 5)))))⟩ : S25)] : List (S25))) (inner := [.int .i64 (wrap64 ((wrap64 ((wrap64 ((wrap64 (Int.tmod (IntKind.u64.wrap (a0)) 50)) - x11_1)) * 3)) * (wrap64 ((wrap64 (1 + (wrap64 (Int.tmod (IntKind.u64.wrap (a2)) 5)))) + 3)))), .int .i64 (wrap64 ((wrap64 ((wrap64 ((wrap64 ((wrap64 (Int.tmod (IntKind.u64.wrap (a0)) 50)) - x11_1)) * 3)) * (wrap64 ((wrap64 (1 + (wrap64 (Int.tmod (IntKind.u64.wrap (a2)) 5)))) + 3)))) + (wrap64 (1 + (wrap64 (Int.tmod (IntKind.u64.wrap (a2)) 5))))))]) (ok := fun _ => True) (okp := fun _ => True) ?hr ?hp (fun _ hk => hk) trivial (Below.refl _ _) (Nat.le_refl _) (by simp) ?_; (case hd => rfl); (case hg => rfl); (case hr => first | (go_simp; done) | (go_simp; rfl)); (case hp => exact (Reps.c2 (show Kd.M k25 _ _ _ (⟨wrap64 ((wrap64 ((wrap64 ((wrap64 (Int.tmod (IntKind.u64.wrap (a0)) 50)) - x11_1)) * 3)) * (wrap64 ((wrap64 (1 + (wrap64 (Int.tmod (IntKind.u64.wrap (a2)) 5)))) + 3))), wrap64 ((wrap64 ((wrap64 ((wrap64 ((wrap64 (Int.tmod (IntKind.u64.wrap (a0)) 50)) - x11_1)) * 3)) * (wrap64 ((wrap64 (1 + (wrap64 (Int.tmod (IntKind.u64.wrap (a2)) 5)))) + 3)))) + (wrap64 (1 + (wrap64 (Int.tmod (IntKind.u64.wrap (a2)) 5)))))⟩ : S25) [.int .i64 (wrap64 ((wrap64 ((wrap64 ((wrap64 (Int.tmod (IntKind.u64.wrap (a0)) 50)) - x11_1)) * 3)) * (wrap64 ((wrap64 (1 + (wrap64 (Int.tmod (IntKind.u64.wrap (a2)) 5)))) + 3)))), .int .i64 (wrap64 ((wrap64 ((wrap64 ((wrap64 ((wrap64 (Int.tmod (IntKind.u64.wrap (a0)) 50)) - x11_1)) * 3)) * (wrap64 ((wrap64 (1 + (wrap64 (Int.tmod (IntKind.u64.wrap (a2)) 5)))) + 3)))) + (wrap64 (1 + (wrap64 (Int.tmod (IntKind.u64.wrap (a2)) 5))))))] from (k25_mkM _ _ _ (⟨wrap64 ((wrap64 ((wrap64 ((wrap64 (Int.tmod (IntKind.u64.wrap (a0)) 50)) - x11_1)) * 3)) * (wrap64 ((wrap64 (1 + (wrap64 (Int.tmod (IntKind.u64.wrap (a2)) 5)))) + 3))), wrap64 ((wrap64 ((wrap64 ((wrap64 ((wrap64 (Int.tmod (IntKind.u64.wrap (a0)) 50)) - x11_1)) * 3)) * (wrap64 ((wrap64 (1 + (wrap64 (Int.tmod (IntKind.u64.wrap (a2)) 5)))) + 3)))) + (wrap64 (1 + (wrap64 (Int.tmod (IntKind.u64.wrap (a2)) 5)))))⟩ : S25) )) (Reps.none _ _))); intro v105 w6 ho7 hb hg_ hnew_; clear hg_ hnew_; (first | rw [← Ny104.out] at ho7 | (simp only [Int.reduceToNat] at ho7; rw [← Ny104.out] at ho7)); have n0_ := Aside0.mk (Kd.S_elder' (by (with_reducible repeat (first | apply Kd.S_alloc | apply Kd.S_drewN | apply Kd.S_drew)); exact HO_10.out) (Kd.R_base ho7) hb); have n1_ := Aside0.mk (Kd.R_lower ho7 (below_size (by repeat (first | (with_reducible first | exact HB.out | apply below_alloc | apply pw_below_drewN | apply below_drew1) | exact HB.out)))); have n2_ := Aside0.mk (below_step (by repeat (first | (with_reducible first | exact HB.out | apply below_alloc | apply pw_below_drewN | apply below_drew1) | exact HB.out)) hb); clear HO_10; clear HB; have HO_10 := n0_; have HO106 := n1_; have HB := n2_; clear n0_ n1_ n2_; clear hb ho7; obtain ⟨Ao8, co8, eo8⟩ := Kd.R_slice HO106.out; subst eo8) | ((with_reducible refine gate_builtin (b := .append) (xs := #[.tmp 43, .tmp 52]) rfl ?_); (try (refine gate_guard (by rfl) ?_; dsimp only)); at_builtin; refine Kd.S_append k28 (w0 := w) w.heap.size rfl (.tmp 43) (.tmp 52) 23 28 (.agg #[(.slice none 0 0), (.int .i64 0)]) 32 rfl Try.underlying23 info28 rfl (by decide) (by omega) u10 x10_1 (⟨y104, x11_1⟩ : S28) [.slice Ao8 y104.length co8, .int .i64 x11_1] (fun _ => True) (fun k_ => some k_ = (.slice Ao8 y104.length co8 : Value).ownBlock) rfl rfl ?aP (fun k_ hk_ => ((Kd.R_mono (ok' := fun k_ => ((fun _ => True)) k_ ∧ some k_ ≠ (u10 : Value).ownBlock) (Kd.R_apart' (HO106.out) (Kd.S_typed HO_10.out) (by decide)) (fun k_ hk => ⟨trivial, hk.2⟩))).1 k_ hk_.symm) ?aF ?aO ?aB ?aS ?aL ?_; (case aP => exact k28_mkM _ _ _ (⟨y104, x11_1⟩ : S28) (Kd.R_mono (Kd.R_tight rfl (Kd.R_mono (ok' := fun k_ => ((fun _ => True)) k_ ∧ some k_ ≠ (u10 : Value).ownBlock) (Kd.R_apart' (HO106.out) (Kd.S_typed HO_10.out) (by decide)) (fun k_ hk => ⟨trivial, hk.2⟩))) (fun _ h_ => h_))); (case aB => exact (by repeat (first | (with_reducible first | exact HB.out | apply below_alloc | apply pw_below_drewN | apply below_drew1) | exact HB.out))); (case aF => exact (fun _ _ => trivial)); (case aO => exact (by (with_reducible repeat (first | apply Kd.S_alloc | apply Kd.S_drewN | apply Kd.S_drew)); exact Kd.S_mono HO_10.out (fun k_ hk => ⟨trivial, fun e_ => hk.2 e_⟩))); (case aS => exact (below_size (by repeat (first | (with_reducible first | exact HB.out | apply below_alloc | apply pw_below_drewN | apply below_drew1) | exact HB.out)))); (case aL => have := LMc5.out; omega); intro v108 w9 ho hb hg hat; rw [← Ny107.out] at ho; have n0_ := Aside0.mk (hb); have n1_ := Aside0.mk (ho); clear HB; clear HO_10; clear HO106; have HB := n0_; have HO109 := n1_; clear n0_ n1_; clear ho hb hg hat))
          go_roundg k1
          case measure => have := HK1.out; omega
          case rel => exact ⟨(y107), (wrap64 (x11_1 + 1)), (by first | rfl | (simp; done) | (simp [*]; done)), H', ⟨by have := HK1.out; omega⟩, ⟨by (with_reducible repeat (first | apply Kd.S_alloc | apply Kd.S_drewN | apply Kd.S_drew)); exact HO109.out⟩, ⟨by repeat (first | (with_reducible first | exact HB.out | apply below_alloc | apply pw_below_drewN | apply below_drew1) | exact HB.out)⟩⟩
        · rw [if_neg c5] at H
          exact absurd H (by simp)
      · rw [if_neg c4] at H
        have c4b0 : decide (x11_1 < (wrap64 (Int.tmod (IntKind.u64.wrap (a0)) 50))) = false := decide_eq_false c4
        clear c4
        replace H := Option.bind_eq_some_iff.mp H
        obtain ⟨⟨t110, t111, t112⟩, A100, H⟩ := H
        replace H : (if t112.isNone = true then (if t111 = 0 then (if (t110.length : Int) = (wrap64 (Int.tmod (IntKind.u64.wrap (a0)) 50)) then ((scan_Cost.f k1 x10_1 t110).bind fun t116 => (mandrellaw19_ScanApart.j1 k1 (wrap64 (Int.tmod (IntKind.u64.wrap (a0)) 50)) (wrap64 (1 + (wrap64 (Int.tmod (IntKind.u64.wrap (a1)) 32)))) t110 (t116 != 0))) else (mandrellaw19_ScanApart.j1 k1 (wrap64 (Int.tmod (IntKind.u64.wrap (a0)) 50)) (wrap64 (1 + (wrap64 (Int.tmod (IntKind.u64.wrap (a1)) 32)))) t110 true)) else (mandrellaw19_ScanApart.j1 k1 (wrap64 (Int.tmod (IntKind.u64.wrap (a0)) 50)) (wrap64 (1 + (wrap64 (Int.tmod (IntKind.u64.wrap (a1)) 32)))) t110 true)) else (mandrellaw19_ScanApart.j1 k1 (wrap64 (Int.tmod (IntKind.u64.wrap (a0)) 50)) (wrap64 (1 + (wrap64 (Int.tmod (IntKind.u64.wrap (a1)) 32)))) t110 true)) = some r := H
        have A10 := Aside0.mk A100
        clear A100
        have HC11 := Aside0.mk H
        clear H
        obtain ⟨Ao12, co12, eo12⟩ := Kd.S_slice HO_10.out
        subst eo12
        go_upto_region 9 with (first | ((with_reducible refine gate_callee (f := 6) rfl ?_); refine goesL_ (some 57) rfl rfl Try.func6 (by kernel_rfl) rfl #[.slice Ao12 x10_1.length co12, .int .i64 (wrap64 (1 + (wrap64 (Int.tmod (IntKind.u64.wrap (a1)) 32))))] rfl (by (try simp only [List.map_toArray, List.map_cons, List.map_nil]); first | done | rfl | (simp only [List.length_drop, List.length_take]; rfl)) ?_; (with_reducible refine (scan_Assign.calls k1 _ _ x10_1 (wrap64 (1 + (wrap64 (Int.tmod (IntKind.u64.wrap (a1)) 32)))) t110 t111 t112 _ ?side1 ?side2 A10.out).mono ?_); (case side1 => repeat (first | exact (Kd.S_reads' HO_10.out).2.2 | (with_reducible refine Kd.C_alloc ?_ _) | (with_reducible refine Kd.C_drewN ?_ _) | (with_reducible refine Kd.C_drew ?_))); (case side2 => exact (Kd.S_reads' HO_10.out).2.1); rintro e w13 ⟨v113, rfl, ho0, hb⟩; refine ⟨_, rfl, ?_⟩; have n0_ := Aside0.mk (Kd.S_below (by (with_reducible repeat (first | apply Kd.S_alloc | apply Kd.S_drewN | apply Kd.S_drew)); exact HO_10.out) hb); have n1_ := Aside0.mk (Kd.R_lower ho0 (below_size (by repeat (first | (with_reducible first | exact HB.out | apply below_alloc | apply pw_below_drewN | apply below_drew1) | exact HB.out)))); have n2_ := Aside0.mk (below_step (by repeat (first | (with_reducible first | exact HB.out | apply below_alloc | apply pw_below_drewN | apply below_drew1) | exact HB.out)) hb); clear HO_10; clear HB; have HO_10 := n0_; have HO114 := n1_; have HB := n2_; clear n0_ n1_ n2_; (try clear hb); (try clear hb2); (try clear hk); (try clear hi); (try clear ho0); (try simp only [errW_none, errW_some])))
        (try simp only [Act.put, List.setIfInBounds_toArray, List.set_cons_zero, List.set_cons_succ])
        go_cut [78] (fun v78 wc => ∃ (kq : Nat) (x78_10 : Bool), v78 = .bool x78_10 ∧ Aside0 (mandrellaw19_ScanApart.j1 kq (wrap64 (Int.tmod (IntKind.u64.wrap (a0)) 50)) (wrap64 (1 + (wrap64 (Int.tmod (IntKind.u64.wrap (a1)) 32)))) t110 x78_10 = some r) ∧ Aside0 (kq ≤ k1) ∧ Aside0 (Kd.R (Kd.int .i64) 3 wc w.heap.size (fun _ => True) v113 t110) ∧ Aside0 (Below w.heap.size w wc))
        case first =>
          have H := HC11.out
          clear HC11
          rcases t112 with _ | q115
          · have H1 : (if t111 = 0 then (if (t110.length : Int) = (wrap64 (Int.tmod (IntKind.u64.wrap (a0)) 50)) then ((scan_Cost.f k1 x10_1 t110).bind fun t116 => (mandrellaw19_ScanApart.j1 k1 (wrap64 (Int.tmod (IntKind.u64.wrap (a0)) 50)) (wrap64 (1 + (wrap64 (Int.tmod (IntKind.u64.wrap (a1)) 32)))) t110 (t116 != 0))) else (mandrellaw19_ScanApart.j1 k1 (wrap64 (Int.tmod (IntKind.u64.wrap (a0)) 50)) (wrap64 (1 + (wrap64 (Int.tmod (IntKind.u64.wrap (a1)) 32)))) t110 true)) else (mandrellaw19_ScanApart.j1 k1 (wrap64 (Int.tmod (IntKind.u64.wrap (a0)) 50)) (wrap64 (1 + (wrap64 (Int.tmod (IntKind.u64.wrap (a1)) 32)))) t110 true)) = some r := by rw [if_pos (show (none : Option Int).isNone = true by rfl)] at H; exact H
            clear H
            have H := H1
            clear H1
            try simp only [errW_none, errW_some]
            by_cases c14 : t111 = 0
            · rw [if_pos c14] at H
              have c14b0 : (t111 == 0) = true := beq_iff_eq.mpr c14
              have c14b1 : (t111 != 0) = false := bne_eq_false_iff_eq.mpr c14
              clear c14
              (first | rw [c14b0] | (simp only [i64_w, i32_w]; rw [c14b0]) | skip)
              by_cases c15 : (t110.length : Int) = (wrap64 (Int.tmod (IntKind.u64.wrap (a0)) 50))
              · rw [if_pos c15] at H
                have c15b0 : ((t110.length : Int) == (wrap64 (Int.tmod (IntKind.u64.wrap (a0)) 50))) = true := beq_iff_eq.mpr c15
                have c15b1 : ((t110.length : Int) != (wrap64 (Int.tmod (IntKind.u64.wrap (a0)) 50))) = false := bne_eq_false_iff_eq.mpr c15
                clear c15
                replace H := Option.bind_eq_some_iff.mp H
                obtain ⟨t116, A160, H⟩ := H
                replace H : (mandrellaw19_ScanApart.j1 k1 (wrap64 (Int.tmod (IntKind.u64.wrap (a0)) 50)) (wrap64 (1 + (wrap64 (Int.tmod (IntKind.u64.wrap (a1)) 32)))) t110 (t116 != 0)) = some r := H
                have A16 := Aside0.mk A160
                clear A160
                have H' := Aside0.mk H
                clear H
                obtain ⟨Ao17, co17, eo17⟩ := Kd.R_slice HO114.out
                subst eo17
                go_wp2_with (first | (go_at_call 7; (with_reducible refine (scan_Cost.calls k1 _ _ x10_1 _ _ t110 t116 _ ?side1 ?side2 ?side3 ?side4 A16.out).mono ?_); (case side1 => repeat (first | exact (Kd.S_reads' HO_10.out).2.2 | (with_reducible refine Kd.C_alloc ?_ _) | (with_reducible refine Kd.C_drewN ?_ _) | (with_reducible refine Kd.C_drew ?_))); (case side2 => exact (Kd.S_reads' HO_10.out).2.1); (case side3 => repeat (first | exact (Kd.R_reads' HO114.out).2.2 | (with_reducible refine Kd.C_alloc ?_ _) | (with_reducible refine Kd.C_drewN ?_ _) | (with_reducible refine Kd.C_drew ?_))); (case side4 => exact (Kd.R_reads' HO114.out).2.1); rintro e w18 ⟨rfl, hb⟩; have n0_ := Aside0.mk (Kd.S_below (by (with_reducible repeat (first | apply Kd.S_alloc | apply Kd.S_drewN | apply Kd.S_drew)); exact HO_10.out) hb); have n1_ := Aside0.mk (Kd.R_below (by (with_reducible repeat (first | apply Kd.R_alloc | apply Kd.R_drewN | apply Kd.R_drew)); exact HO114.out) hb); have n2_ := Aside0.mk (below_step (by repeat (first | (with_reducible first | exact HB.out | apply below_alloc | apply pw_below_drewN | apply below_drew1) | exact HB.out)) hb); clear HO_10; clear HO114; clear HB; have HO_10 := n0_; have HO114 := n1_; have HB := n2_; clear n0_ n1_ n2_; (try clear hb); (try clear hb2); (try clear hk); (try clear hi)))
                go_meet
                case rel => exact ⟨_, ((t116 != 0)), (by first | rfl | (simp; done) | (simp [*]; done)), H', ⟨by have := HK1.out; first | omega | exact Nat.le_refl _⟩, ⟨by (with_reducible repeat (first | apply Kd.R_alloc | apply Kd.R_drewN | apply Kd.R_drew)); exact HO114.out⟩, ⟨by repeat (first | (with_reducible first | exact HB.out | apply below_alloc | apply pw_below_drewN | apply below_drew1) | exact HB.out)⟩⟩
              · rw [if_neg c15] at H
                have c15b0 : ((t110.length : Int) == (wrap64 (Int.tmod (IntKind.u64.wrap (a0)) 50))) = false := beq_eq_false_iff_ne.mpr c15
                have c15b1 : ((t110.length : Int) != (wrap64 (Int.tmod (IntKind.u64.wrap (a0)) 50))) = true := bne_iff_ne.mpr c15
                have H' := Aside0.mk H
                clear H
                obtain ⟨Ao19, co19, eo19⟩ := Kd.R_slice HO114.out
                subst eo19
                go_wp2
                go_meet
                case rel => exact ⟨_, (true), (by first | rfl | (simp; done) | (simp [*]; done)), H', ⟨by have := HK1.out; first | omega | exact Nat.le_refl _⟩, ⟨by (with_reducible repeat (first | apply Kd.R_alloc | apply Kd.R_drewN | apply Kd.R_drew)); exact HO114.out⟩, ⟨by repeat (first | (with_reducible first | exact HB.out | apply below_alloc | apply pw_below_drewN | apply below_drew1) | exact HB.out)⟩⟩
            · rw [if_neg c14] at H
              have c14b0 : (t111 == 0) = false := beq_eq_false_iff_ne.mpr c14
              have c14b1 : (t111 != 0) = true := bne_iff_ne.mpr c14
              (first | rw [c14b0] | (simp only [i64_w, i32_w]; rw [c14b0]) | skip)
              have H' := Aside0.mk H
              clear H
              go_wp2
              go_meet
              case rel => exact ⟨_, (true), (by first | rfl | (simp; done) | (simp [*]; done)), H', ⟨by have := HK1.out; first | omega | exact Nat.le_refl _⟩, ⟨by (with_reducible repeat (first | apply Kd.R_alloc | apply Kd.R_drewN | apply Kd.R_drew)); exact HO114.out⟩, ⟨by repeat (first | (with_reducible first | exact HB.out | apply below_alloc | apply pw_below_drewN | apply below_drew1) | exact HB.out)⟩⟩
          · have H1 : (mandrellaw19_ScanApart.j1 k1 (wrap64 (Int.tmod (IntKind.u64.wrap (a0)) 50)) (wrap64 (1 + (wrap64 (Int.tmod (IntKind.u64.wrap (a1)) 32)))) t110 true) = some r := by rw [if_neg (show ¬ (some q115).isNone = true by simp)] at H; exact H
            clear H
            have H := H1
            clear H1
            try simp only [errW_none, errW_some]
            have H' := Aside0.mk H
            clear H
            go_wp2
            go_meet
            case rel => exact ⟨_, (true), (by first | rfl | (simp; done) | (simp [*]; done)), H', ⟨by have := HK1.out; first | omega | exact Nat.le_refl _⟩, ⟨by (with_reducible repeat (first | apply Kd.R_alloc | apply Kd.R_drewN | apply Kd.R_drew)); exact HO114.out⟩, ⟨by repeat (first | (with_reducible first | exact HB.out | apply below_alloc | apply pw_below_drewN | apply below_drew1) | exact HB.out)⟩⟩
        case rest =>
          clear HC11
          try clear c1
          try clear q1
          try clear c2
          try clear p2
          try clear c3
          try clear c4
          try clear c4b0
          try clear c5
          try clear c6
          try clear p6
          try clear q11
          try clear c14
          try clear c14b0
          try clear c14b1
          try clear c15
          try clear c15b0
          try clear c15b1
          try clear p2
          try clear q115
          obtain ⟨kq, x78_10, rfl, HA, HJ10, HO_13, HB⟩ := hcut
          cases kq with
          | zero => exact absurd HA.out (by simp [mandrellaw19_ScanApart.j1])
          | succ kj10 =>
            have H := HA.out
            clear HA
            simp only [mandrellaw19_ScanApart.j1] at H
            by_cases c20 : x78_10 = true
            · subst c20
              have H1 : (some false) = some r := by rw [if_pos rfl] at H; exact H
              clear H
              have H := H1
              clear H1
              obtain rfl := Option.some.inj H
              go_wp2
              go_ret
              exact ⟨by first | rfl | (simp [errW_none, errW_some] <;> rfl) | (simp [*, errW_none, errW_some] <;> rfl), by repeat (first | (with_reducible first | exact HB.out | apply below_alloc | apply pw_below_drewN | apply below_drew1) | exact HB.out)⟩
            · replace c20 := Bool.eq_false_iff.mpr c20
              subst c20
              have H1 : (mandrellaw19_ScanApart.l1 kj10 (wrap64 (Int.tmod (IntKind.u64.wrap (a0)) 50)) (wrap64 (1 + (wrap64 (Int.tmod (IntKind.u64.wrap (a1)) 32)))) t110 0) = some r := by rw [if_neg (show ¬ (false = true) by decide)] at H; exact H
              clear H
              have H := H1
              clear H1
              have H' := Aside0.mk H
              clear H
              go_wp2
              go_loopg [16] kj10 (fun kq v16 w' => ∃ (x16_3 : Int), v16 = .int .i64 x16_3 ∧ Aside0 (mandrellaw19_ScanApart.l1 kq (wrap64 (Int.tmod (IntKind.u64.wrap (a0)) 50)) (wrap64 (1 + (wrap64 (Int.tmod (IntKind.u64.wrap (a1)) 32)))) t110 x16_3 = some r) ∧ Aside0 (kq ≤ kj10) ∧ Aside0 (Kd.R (Kd.int .i64) 3 w' w.heap.size (fun _ => True) v113 t110) ∧ Aside0 (Below w.heap.size w w'))
              case atStart => exact ⟨(0), (by first | rfl | (simp; done) | (simp [*]; done)), H', ⟨Nat.le_refl _⟩, ⟨by (with_reducible repeat (first | apply Kd.R_alloc | apply Kd.R_drewN | apply Kd.R_drew)); exact HO_13.out⟩, ⟨by repeat (first | (with_reducible first | exact HB.out | apply below_alloc | apply pw_below_drewN | apply below_drew1) | exact HB.out)⟩⟩
              case round =>
                clear H'
                try clear c1
                try clear q1
                try clear c2
                try clear p2
                try clear c3
                try clear c4
                try clear c4b0
                try clear c5
                try clear c6
                try clear p6
                try clear q11
                try clear c14
                try clear c14b0
                try clear c14b1
                try clear c15
                try clear c15b0
                try clear c15b1
                try clear c20
                try clear p2
                try clear p6
                try clear q1
                try clear q11
                try clear q115
                obtain ⟨x16_3, rfl, HA, HK3, HO_13, HB⟩ := hrel
                cases gk with
                | zero => exact absurd HA.out (by simp [mandrellaw19_ScanApart.l1])
                | succ k3 =>
                  have H := HA.out
                  clear HA
                  simp only [mandrellaw19_ScanApart.l1] at H
                  by_cases c21 : x16_3 < (wrap64 (Int.tmod (IntKind.u64.wrap (a0)) 50))
                  · rw [if_pos c21] at H
                    have c21b0 : decide (x16_3 < (wrap64 (Int.tmod (IntKind.u64.wrap (a0)) 50))) = true := decide_eq_true c21
                    clear c21
                    by_cases c22 : 0 ≤ x16_3
                    · rw [if_pos c22] at H
                      have c22b0 : decide (0 ≤ x16_3) = true := decide_eq_true c22
                      clear c22
                      by_cases c23 : x16_3 < (t110.length : Int)
                      · rw [if_pos c23] at H
                        have c23b0 : decide (x16_3 < (t110.length : Int)) = true := decide_eq_true c23
                        clear c23
                        by_cases c24 : (rd t110 x16_3) < 0
                        · rw [if_pos c24] at H
                          have c24b0 : decide ((rd t110 x16_3) < 0) = true := decide_eq_true c24
                          clear c24
                          obtain rfl := Option.some.inj H
                          obtain ⟨Ao25, co25, eo25⟩ := Kd.R_slice HO_13.out
                          subst eo25
                          have p117 : 0 ≤ (x16_3 : Int) := of_decide_eq_true (by first | (with_reducible assumption) | assumption)
                          have q117 : x16_3 < (t110.length : Int) := of_decide_eq_true (by first | (with_reducible assumption) | assumption)
                          obtain ⟨ad117, e117, hx117_0⟩ := Kd.at_int (Kd.R_reads' HO_13.out).2.2 x16_3 p117 q117
                          cases e117
                          replace p117 := eq_true p117
                          replace q117 := eq_true q117
                          go_wp2
                          go_ret
                          exact ⟨by first | rfl | (simp [errW_none, errW_some] <;> rfl) | (simp [*, errW_none, errW_some] <;> rfl), by repeat (first | (with_reducible first | exact HB.out | apply below_alloc | apply pw_below_drewN | apply below_drew1) | exact HB.out)⟩
                        · rw [if_neg c24] at H
                          have c24b0 : decide ((rd t110 x16_3) < 0) = false := decide_eq_false c24
                          clear c24
                          by_cases c26 : (rd t110 x16_3) ≥ (wrap64 (1 + (wrap64 (Int.tmod (IntKind.u64.wrap (a1)) 32))))
                          · rw [if_pos c26] at H
                            have c26b0 : decide ((wrap64 (1 + (wrap64 (Int.tmod (IntKind.u64.wrap (a1)) 32)))) ≤ (rd t110 x16_3)) = true := decide_eq_true c26
                            clear c26
                            obtain rfl := Option.some.inj H
                            obtain ⟨Ao27, co27, eo27⟩ := Kd.R_slice HO_13.out
                            subst eo27
                            have p117 : 0 ≤ (x16_3 : Int) := of_decide_eq_true (by first | (with_reducible assumption) | assumption)
                            have q117 : x16_3 < (t110.length : Int) := of_decide_eq_true (by first | (with_reducible assumption) | assumption)
                            obtain ⟨ad117, e117, hx117_0⟩ := Kd.at_int (Kd.R_reads' HO_13.out).2.2 x16_3 p117 q117
                            cases e117
                            replace p117 := eq_true p117
                            replace q117 := eq_true q117
                            have p118 : 0 ≤ (x16_3 : Int) := of_decide_eq_true (by first | (with_reducible assumption) | assumption)
                            have q118 : x16_3 < (t110.length : Int) := of_decide_eq_true (by first | (with_reducible assumption) | assumption)
                            obtain ⟨ad118, e118, hx118_0⟩ := Kd.at_int (Kd.R_reads' HO_13.out).2.2 x16_3 p118 q118
                            obtain rfl : ad117 = ad118 := (by injection e118)
                            replace p118 := eq_true p118
                            replace q118 := eq_true q118
                            go_wp2
                            go_ret
                            exact ⟨by first | rfl | (simp [errW_none, errW_some] <;> rfl) | (simp [*, errW_none, errW_some] <;> rfl), by repeat (first | (with_reducible first | exact HB.out | apply below_alloc | apply pw_below_drewN | apply below_drew1) | exact HB.out)⟩
                          · rw [if_neg c26] at H
                            have c26b0 : decide ((wrap64 (1 + (wrap64 (Int.tmod (IntKind.u64.wrap (a1)) 32)))) ≤ (rd t110 x16_3)) = false := decide_eq_false c26
                            clear c26
                            have H' := Aside0.mk H
                            clear H
                            obtain ⟨Ao28, co28, eo28⟩ := Kd.R_slice HO_13.out
                            subst eo28
                            have p117 : 0 ≤ (x16_3 : Int) := of_decide_eq_true (by first | (with_reducible assumption) | assumption)
                            have q117 : x16_3 < (t110.length : Int) := of_decide_eq_true (by first | (with_reducible assumption) | assumption)
                            obtain ⟨ad117, e117, hx117_0⟩ := Kd.at_int (Kd.R_reads' HO_13.out).2.2 x16_3 p117 q117
                            cases e117
                            replace p117 := eq_true p117
                            replace q117 := eq_true q117
                            have p118 : 0 ≤ (x16_3 : Int) := of_decide_eq_true (by first | (with_reducible assumption) | assumption)
                            have q118 : x16_3 < (t110.length : Int) := of_decide_eq_true (by first | (with_reducible assumption) | assumption)
                            obtain ⟨ad118, e118, hx118_0⟩ := Kd.at_int (Kd.R_reads' HO_13.out).2.2 x16_3 p118 q118
                            obtain rfl : ad117 = ad118 := (by injection e118)
                            replace p118 := eq_true p118
                            replace q118 := eq_true q118
                            go_wp2
                            go_roundg k3
                            case measure => have := HK1.out; have := HJ10.out; have := HK3.out; omega
                            case rel => exact ⟨(wrap64 (x16_3 + 1)), (by first | rfl | (simp; done) | (simp [*]; done)), H', ⟨by have := HK1.out; have := HJ10.out; have := HK3.out; omega⟩, ⟨by (with_reducible repeat (first | apply Kd.R_alloc | apply Kd.R_drewN | apply Kd.R_drew)); exact HO_13.out⟩, ⟨by repeat (first | (with_reducible first | exact HB.out | apply below_alloc | apply pw_below_drewN | apply below_drew1) | exact HB.out)⟩⟩
                      · rw [if_neg c23] at H
                        exact absurd H (by simp)
                    · rw [if_neg c22] at H
                      exact absurd H (by simp)
                  · rw [if_neg c21] at H
                    have c21b0 : decide (x16_3 < (wrap64 (Int.tmod (IntKind.u64.wrap (a0)) 50))) = false := decide_eq_false c21
                    clear c21
                    replace H := Option.bind_eq_some_iff.mp H
                    obtain ⟨t119, A290, H⟩ := H
                    replace H : (some t119) = some r := H
                    have A29 := Aside0.mk A290
                    clear A290
                    obtain rfl := Option.some.inj H
                    go_wp2_with (first | ((with_reducible refine gate_callee (f := 8) rfl ?_); refine goesL_ (some 97) rfl rfl Try.func8 (by kernel_rfl) rfl #[] rfl (by (try simp only [List.map_toArray, List.map_cons, List.map_nil]); first | done | rfl | (simp only [List.length_drop, List.length_take]; rfl)) ?_; (with_reducible refine (mandrellaw19_sure.calls  t119 _ A29.out).mono ?_); rintro e w30 ⟨rfl, hb⟩; refine ⟨_, rfl, ?_⟩; have n0_ := Aside0.mk (Kd.R_below (by (with_reducible repeat (first | apply Kd.R_alloc | apply Kd.R_drewN | apply Kd.R_drew)); exact HO_13.out) hb); have n1_ := Aside0.mk (below_step (by repeat (first | (with_reducible first | exact HB.out | apply below_alloc | apply pw_below_drewN | apply below_drew1) | exact HB.out)) hb); clear HO_13; clear HB; have HO_13 := n0_; have HB := n1_; clear n0_ n1_; (try clear hb); (try clear hb2); (try clear hk); (try clear hi)))
                    go_ret
                    exact ⟨by first | rfl | (simp [errW_none, errW_some] <;> rfl) | (simp [*, errW_none, errW_some] <;> rfl), by repeat (first | (with_reducible first | exact HB.out | apply below_alloc | apply pw_below_drewN | apply below_drew1) | exact HB.out)⟩

/-- THE ONE PURE STATEMENT of mandrellaw19_ScanApart: yours. -/
def mandrellaw19_ScanApart.Pure : Prop := ∀ (a0 : Int) (a1 : Int) (a2 : Int), (Lit.int .i64 a0).wf = true → (Lit.int .i64 a1).wf = true → (Lit.int .i64 a2).wf = true → ∃ k, mandrellaw19_ScanApart.f k a0 a1 a2 = some true
theorem mandrellaw19_ScanApart.walk (P : mandrellaw19_ScanApart.Pure) (a0 : Int) (a1 : Int) (a2 : Int) (w : World) (w0 : (Lit.int .i64 a0).wf = true) (w1 : (Lit.int .i64 a1).wf = true) (w2 : (Lit.int .i64 a2).wf = true) :
    Calls Try.prog 3 #[.int .i64 a0, .int .i64 a1, .int .i64 a2] w fun e w' => e = .returned (.bool true) ∧ Below w.heap.size w w' := by
  obtain ⟨k, h⟩ := P a0 a1 a2 w0 w1 w2
  refine (mandrellaw19_ScanApart.calls k a0 a1 a2 true w h).mono ?_
  rintro e w' ⟨rfl, hd⟩
  exact ⟨rfl, hd⟩

/-! ### mandrellaw19_many: function 9 -/
def mandrellaw19_many.l0 : Nat → List (S43) → Int → Int → Option (Bool)
  | 0, _, _, _ => none
  | k + 1, x0, x3, x4 => if x4 < (x0.length : Int) then (if 0 ≤ x4 then (mandrellaw19_many.l0 k x0 (wrap64 (x3 + (mn (((rd_T43 x0 x4).f0).length : Int) 1000))) (wrap64 (x4 + 1))) else (none)) else (some (decide (x3 > 400)))
def mandrellaw19_many.f (k : Nat) (l0 : List (S43)) : Option (Bool) := if (l0.length : Int) > 60 then (some true) else (mandrellaw19_many.l0 k l0 0 0)
theorem mandrellaw19_many.mono_l : ∀ k, (∀ y0 y1 y2, LeO (mandrellaw19_many.l0 k y0 y1 y2) (mandrellaw19_many.l0 (k + 1) y0 y1 y2))
  | 0 => fun _ _ _ r h => by simp [mandrellaw19_many.l0] at h
  | k + 1 => by
    have ih0 := mandrellaw19_many.mono_l k
    · intro y0 y1 y2
      unfold mandrellaw19_many.l0
      repeat' first
      | (with_reducible exact ih0 _ _ _)
      | (with_reducible exact LeO.refl _)
      | (with_reducible exact LeO.none _)
      | (with_reducible refine LeO.ite ?_ ?_)
      | (with_reducible refine LeO.bind ?_ (fun _ => ?_))
      | exact ih0 _ _ _
      | exact LeO.none _
      | refine LeO.ite ?_ ?_
      | refine LeO.bind ?_ (fun _ => ?_)
theorem mandrellaw19_many.mono : ∀ a0 k, LeO (mandrellaw19_many.f k a0) (mandrellaw19_many.f (k + 1) a0) := by
  intro a0 k
  have ih0 := mandrellaw19_many.mono_l k
  unfold mandrellaw19_many.f
  repeat' first
      | (with_reducible exact ih0 _ _ _)
      | (with_reducible exact LeO.refl _)
      | (with_reducible exact LeO.none _)
      | (with_reducible refine LeO.ite ?_ ?_)
      | (with_reducible refine LeO.bind ?_ (fun _ => ?_))
      | exact ih0 _ _ _
      | exact LeO.none _
      | refine LeO.ite ?_ ?_
      | refine LeO.bind ?_ (fun _ => ?_)
set_option maxHeartbeats 8000000 in
set_option maxRecDepth 100000 in
theorem mandrellaw19_many.calls (k : Nat) (A0 : Option Addr) (c0 : Nat) (l0 : List (S43)) (r : Bool) (w : World) (hr0 : Kd.C k43 w A0 l0.length l0) (hc0 : l0.length ≤ c0) (h : mandrellaw19_many.f k l0 = some r) :
    Calls Try.prog 9 #[.slice A0 l0.length c0] w fun e w' => e = .returned (.bool r) ∧ Drawn0 w w' := by
  have HR0 := Aside0.mk hr0
  have HC0 := Aside0.mk hc0
  clear hr0 hc0
  have H : (if (l0.length : Int) > 60 then (some true) else (mandrellaw19_many.l0 k l0 0 0)) = some r := h
  clear h
  by_cases c2 : (l0.length : Int) > 60
  · rw [if_pos c2] at H
    have c2b0 : decide (60 < (l0.length : Int)) = true := decide_eq_true c2
    have c2b1 : decide (60 < l0.length) = true := decide_eq_true (by omega)
    clear c2
    obtain rfl := Option.some.inj H
    go_enter Try.func9, Try.ntmps9
    go_wp2
    go_ret
    exact ⟨by first | rfl | (simp; done) | (simp [*]; done), by repeat (first | exact Drawn0.refl _ | apply Drawn0.step)⟩
  · rw [if_neg c2] at H
    have c2b0 : decide (60 < (l0.length : Int)) = false := decide_eq_false c2
    have c2b1 : decide (60 < l0.length) = false := decide_eq_false (by omega)
    clear c2
    have H' := Aside0.mk H
    clear H
    go_enter Try.func9, Try.ntmps9
    go_wp2
    go_loopg [3, 4] k (fun kq v3 v4 w' => ∃ (x3_1 : Int) (x4_1 : Int), v3 = .int .i64 x3_1 ∧ v4 = .int .i64 x4_1 ∧ Aside0 (mandrellaw19_many.l0 kq l0 x3_1 x4_1 = some r) ∧ Aside0 (kq ≤ k) ∧ Drawn0 w w')
    case atStart => exact ⟨(0), (0), (by first | rfl | (simp; done) | (simp [*]; done)), (by first | rfl | (simp; done) | (simp [*]; done)), H', ⟨Nat.le_refl _⟩, by repeat (first | exact Drawn0.refl _ | apply Drawn0.step)⟩
    case round =>
      clear H'
      try clear c2
      try clear c2b0
      try clear c2b1
      try clear p2
      obtain ⟨x3_1, x4_1, rfl, rfl, HA, HK1, ⟨m1, rfl⟩⟩ := hrel
      cases gk with
      | zero => exact absurd HA.out (by simp [mandrellaw19_many.l0])
      | succ k1 =>
        have H := HA.out
        clear HA
        simp only [mandrellaw19_many.l0] at H
        by_cases c3 : x4_1 < (l0.length : Int)
        · rw [if_pos c3] at H
          have c3b0 : decide (x4_1 < (l0.length : Int)) = true := decide_eq_true c3
          clear c3
          by_cases c4 : 0 ≤ x4_1
          · rw [if_pos c4] at H
            have c4b0 : decide (0 ≤ x4_1) = true := decide_eq_true c4
            clear c4
            obtain ⟨ji5, hji5⟩ : ∃ j_ : Int, (mn (((rd_T43 l0 x4_1).f0).length : Int) 1000) = j_ := ⟨_, rfl⟩
            replace H : (mandrellaw19_many.l0 k1 l0 (wrap64 (x3_1 + (ji5))) (wrap64 (x4_1 + 1))) = some r := by first | (rw [hji5] at H; exact H) | (simp only [hji5] at H ⊢; exact H)
            have hji5_ : (if 1000 < (((rd_T43 l0 x4_1).f0).length : Int) then 1000 else (((rd_T43 l0 x4_1).f0).length : Int)) = ji5 := hji5
            have H' := Aside0.mk H
            clear H
            have p120 : 0 ≤ (x4_1 : Int) := of_decide_eq_true (by first | (with_reducible assumption) | assumption)
            have q120 : x4_1 < (l0.length : Int) := of_decide_eq_true (by first | (with_reducible assumption) | assumption)
            obtain ⟨ad120, A120_0, c120_0, e120, hx120_0, hx120_1, hl120_0, hi120_0⟩ := at_T43 HR0.out x4_1 p120 q120
            cases e120
            have HR120_0 := Aside0.mk hi120_0
            have HC120_0 := Aside0.mk hl120_0
            clear hi120_0 hl120_0
            replace p120 := eq_true p120
            replace q120 := eq_true q120
            go_wp2
            go_roundg k1
            case measure => have := HK1.out; omega
            case rel => exact ⟨(wrap64 (x3_1 + (ji5))), (wrap64 (x4_1 + 1)), (by first | rfl | (simp; done) | (simp only [← hji5] <;> (first | rfl | simp)) | (simp [*]; done)), (by first | rfl | (simp; done) | (simp [*]; done)), H', ⟨by have := HK1.out; omega⟩, by repeat (first | exact Drawn0.refl _ | apply Drawn0.step)⟩
          · rw [if_neg c4] at H
            exact absurd H (by simp)
        · rw [if_neg c3] at H
          have c3b0 : decide (x4_1 < (l0.length : Int)) = false := decide_eq_false c3
          clear c3
          obtain rfl := Option.some.inj H
          go_wp2
          go_ret
          exact ⟨by first | rfl | (simp; done) | (simp [*]; done), by repeat (first | exact Drawn0.refl _ | apply Drawn0.step)⟩

end Go.Proofs.Ytolhijnkgkfjgaa.XC
