/- What must come whatever the input is. -/
import Derived.Test.YtolhijnkgkfjgaaDoorAsg2
namespace Go.Proofs.YtolhijnkgkfjgaaDoor.XC
open Go.RowKit Go.Proofs.YtolhijnkgkfjgaaDoorW.PrintWords Go.Proofs.YtolhijnkgkfjgaaDoorW.PrintLast Go.Proofs.YtolhijnkgkfjgaaDoorW.PrintMore
attribute [local go_sem] max2_int min2_int max_two min_two max_three min_three max_four min_four   -- for this text's walks alone
set_option linter.unusedVariables false
set_option linter.unusedSimpArgs false
theorem C_blk {α : Type} (d : Kd α) {w : World} {g e : Nat} {cs : List Value} {xs : List α} (h : w.heap[g]? = some (.cells cs.toArray e (0, 0))) (hr : Reps (d.K w) d.sz xs cs) (hn : xs.length ≤ 9223372036854775807) : d.C w (some ⟨g, 0, none⟩) xs.length xs := by
  refine ⟨rfl, hn, fun _ => ⟨_, rfl, fun j p hj => ⟨(cs.drop (j * d.sz)).take d.sz, d.K_len (hr.2 j p hj), hr.2 j p hj, fun i u hi => ?_⟩⟩⟩
  rw [show (⟨g, 0, none⟩ : Addr).add (j * d.sz + i) = ⟨g, j * d.sz + i, none⟩ by unfold Addr.add; split <;> simp_all]
  rw [blk_cell h, List.getElem?_toArray]
  rw [List.getElem?_take] at hi
  split at hi
  · rw [List.getElem?_drop] at hi
    exact hi
  · cases hi
def sureL : List Sp := [⟨[⟨0, 3⟩], 1⟩, ⟨[⟨2, 5⟩], 5⟩]
theorem sure_asg : asg3 (mtOf sureL) sureL 1 = ([[0]], [256, 0]) := by kernel_rfl
theorem sure_f : scan_Assign.f 20 sureL 1 = some ([256, 0], 1, none) := by
  unfold scan_Assign.f
  rw [if_pos (by decide), if_pos (by decide), show ((1 : Int)).toNat = 1 from rfl, sure_asg]
  rfl
def mandrellaw19_sure.f : Option Bool := some true
theorem sure_C (w : World) : Kd.C k44 (((((w.alloc (.cells #[.int .i64 0, .int .i64 3] 41)).alloc (.cells #[.slice (some ⟨w.heap.size, 0, none⟩) 1 1, .int .i64 1] 44)).alloc (.cells #[.int .i64 2, .int .i64 5] 41)).alloc (.cells #[.slice (some ⟨w.heap.size + 1 + 1, 0, none⟩) 1 1, .int .i64 5] 44)).alloc (.cells #[.slice (some ⟨w.heap.size, 0, none⟩) 1 1, .int .i64 1, .slice (some ⟨w.heap.size + 1 + 1, 0, none⟩) 1 1, .int .i64 5] 44)) (some ⟨w.heap.size + 1 + 1 + 1 + 1, 0, none⟩) 2 sureL := by
  obtain ⟨W, hW⟩ : ∃ W, W = (((((w.alloc (.cells #[.int .i64 0, .int .i64 3] 41)).alloc (.cells #[.slice (some ⟨w.heap.size, 0, none⟩) 1 1, .int .i64 1] 44)).alloc (.cells #[.int .i64 2, .int .i64 5] 41)).alloc (.cells #[.slice (some ⟨w.heap.size + 1 + 1, 0, none⟩) 1 1, .int .i64 5] 44)).alloc (.cells #[.slice (some ⟨w.heap.size, 0, none⟩) 1 1, .int .i64 1, .slice (some ⟨w.heap.size + 1 + 1, 0, none⟩) 1 1, .int .i64 5] 44)) := ⟨_, rfl⟩
  have hh : W.heap = ((((w.heap.push (.cells #[.int .i64 0, .int .i64 3] 41)).push (.cells #[.slice (some ⟨w.heap.size, 0, none⟩) 1 1, .int .i64 1] 44)).push (.cells #[.int .i64 2, .int .i64 5] 41)).push (.cells #[.slice (some ⟨w.heap.size + 1 + 1, 0, none⟩) 1 1, .int .i64 5] 44)).push (.cells #[.slice (some ⟨w.heap.size, 0, none⟩) 1 1, .int .i64 1, .slice (some ⟨w.heap.size + 1 + 1, 0, none⟩) 1 1, .int .i64 5] 44) := by rw [hW]; rfl
  have h0 : W.heap[w.heap.size]? = some (.cells [Value.int .i64 0, .int .i64 3].toArray 41 (0, 0)) := by rw [hh]; simp only [Array.getElem?_push, Array.size_push]; repeat (first | rfl | rw [if_neg (by omega)] | rw [if_pos (by omega)])
  have h2 : W.heap[w.heap.size + 1 + 1]? = some (.cells [Value.int .i64 2, .int .i64 5].toArray 41 (0, 0)) := by rw [hh]; simp only [Array.getElem?_push, Array.size_push]; repeat (first | rfl | rw [if_neg (by omega)] | rw [if_pos (by omega)])
  have h4 : W.heap[w.heap.size + 1 + 1 + 1 + 1]? = some (.cells [Value.slice (some ⟨w.heap.size, 0, none⟩) 1 1, .int .i64 1, .slice (some ⟨w.heap.size + 1 + 1, 0, none⟩) 1 1, .int .i64 5].toArray 44 (0, 0)) := by rw [hh]; simp only [Array.getElem?_push, Array.size_push]; repeat (first | rfl | rw [if_neg (by omega)] | rw [if_pos (by omega)])
  rw [← hW]
  have c0 : Kd.C k41 W (some ⟨w.heap.size, 0, none⟩) 1 [⟨0, 3⟩] := C_blk _ h0 (Reps.c2 (k41_mk W ⟨0, 3⟩) (Reps.none _ _)) (by decide)
  have c2 : Kd.C k41 W (some ⟨w.heap.size + 1 + 1, 0, none⟩) 1 [⟨2, 5⟩] := C_blk _ h2 (Reps.c2 (k41_mk W ⟨2, 5⟩) (Reps.none _ _)) (by decide)
  exact C_blk _ (xs := sureL) h4 (Reps.c2 (k44_mk W ⟨[⟨0, 3⟩], 1⟩ (Nat.le_refl _) c0) (Reps.c2 (k44_mk W ⟨[⟨2, 5⟩], 5⟩ (Nat.le_refl _) c2) (Reps.none _ _))) (by decide)
set_option maxHeartbeats 16000000 in
set_option maxRecDepth 100000 in
theorem mandrellaw19_sure.calls (r : Bool) (w : World) (h : mandrellaw19_sure.f = some r) :
    Calls Tryd.prog 5 #[] w fun e w' => e = .returned (.bool r) ∧ Below w.heap.size w w' := by
  obtain rfl : true = r := Option.some.inj h
  clear h
  have HC := Aside0.mk (sure_C w)
  go_enter Tryd.func5, Tryd.ntmps5
  go_wp2_with (go_at_call 6; refine (scan_Assign.calls 20 _ 2 sureL 1 [256, 0] 1 none _ HC.out (Nat.le_refl _) sure_f).mono ?_; rintro e w1 ⟨v, rfl, hr, hb⟩; obtain ⟨g1, c1, rfl, _⟩ := Kd.R_form hr (by decide); have hy0 : w1.cell? ⟨g1, 0, none⟩ = some (.int .i64 256) := (Kd.R_celln 0 (n := 2) hr 0 (by decide) (by decide)).1; have hy1 : w1.cell? ⟨g1, 1, none⟩ = some (.int .i64 0) := (Kd.R_celln 0 (n := 2) hr 1 (by decide) (by decide)).1; rw [errW_none]; have HB1 := Aside0.mk hb; clear hb hr)
  go_ret
  exact ⟨rfl, below_step (below_alloc (below_alloc (below_alloc (below_alloc (below_alloc (Below.refl _ _) _) _) _) _) _) HB1.out⟩
end Go.Proofs.YtolhijnkgkfjgaaDoor.XC
