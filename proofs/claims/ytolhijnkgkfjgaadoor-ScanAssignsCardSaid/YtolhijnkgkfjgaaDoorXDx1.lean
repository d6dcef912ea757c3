/- Functions of the Go program as Lean functions, and the proofs that the Go code answers as they do. Written by a program of this session. -/
import Derived.Test.YtolhijnkgkfjgaaDoorAs
import Derived.Test.YtolhijnkgkfjgaaDoorXCx3
import Derived.Test.YtolhijnkgkfjgaaDoorXCx4
import Derived.Test.YtolhijnkgkfjgaaDoorXCx5
import Derived.Test.YtolhijnkgkfjgaaDoorXCx6
import Derived.Test.YtolhijnkgkfjgaaDoorXCx7
import Derived.Test.YtolhijnkgkfjgaaDoorSure
import Derived.Test.YtolhijnkgkfjgaaDoorXCx0
namespace Go.Proofs.YtolhijnkgkfjgaaDoor.XC
open Go.RowKit Go.Proofs.YtolhijnkgkfjgaaDoorW.PrintWords Go.Proofs.YtolhijnkgkfjgaaDoorW.PrintLast Go.Proofs.YtolhijnkgkfjgaaDoorW.PrintMore
attribute [local go_sem] max2_int min2_int max_two min_two max_three min_three max_four min_four   -- for this text's walks alone
set_option linter.unusedVariables false
set_option linter.unusedSimpArgs false
theorem info4 : (Tryd.prog.info? 4).map (fun i => (i.zero, i.size, i.bytes)) = some (some (.bool false), 1, 1) := by kernel_rfl

/-! mandrellaw19_many: function 4: elsewhere -/

/-! mandrellaw19_sure: function 5: by hand, elsewhere -/

/-! scan_Assign: function 6: elsewhere -/

/-! mandrellaw19_giveSpans: function 7: elsewhere -/

/-! mandrellaw19_may: function 8: elsewhere -/

/-! ### mandrellaw19_num: function 9: the contract is by hand -/
def mandrellaw19_num.f (a0 : Option Int) : Option Int := some (a0.getD 0)
set_option maxHeartbeats 4000000 in
theorem mandrellaw19_num.calls (a0 : Option Int) (r : Int) (w : World) (hLE : LaidE w) (h : mandrellaw19_num.f a0 = some r) :
    Calls Tryd.prog 9 #[errW a0] w fun e w' => e = .returned (.int .i64 r) ∧ Below w.heap.size w w' := by
  obtain rfl : a0.getD 0 = r := Option.some.inj h
  clear h
  rcases a0 with _ | q
  · simp only [errW_none]
    have hu27 := Tryd.underlying27
    go_enter Tryd.func9, Tryd.ntmps9
    go_wp2
    go_ret
    exact ⟨rfl, below_alloc (Below.refl _ _) _⟩
  · simp only [errW_some]
    have hu27 := Tryd.underlying27
    have hu46 := Tryd.underlying46
    have HL := Aside0.mk hLE
    clear hLE
    have HT : Aside0 ((w.alloc (.cells #[.int .i64 0] 46)).cell? ⟨w.heap.size, 0, none⟩ = some (.int .i64 0)) := ⟨by simp⟩
    have HF : Aside0 ((w.alloc (.cells #[.int .i64 0] 46)).frozen? ⟨w.heap.size, 0, none⟩ = false) := ⟨by simp⟩
    have HG : Aside0 (LaidE (w.alloc (.cells #[.int .i64 0] 46))) := ⟨HL.out.below (below_alloc (Below.refl _ _) _)⟩
    go_enter Tryd.func9, Tryd.ntmps9
    go_wp2_with (go_at_call 23; refine (Go.Proofs.YtolhijnkgkfjgaaDoor.As.as_hit q ⟨w.heap.size, 0, none⟩ (.int .i64 0) _ HG.out.et HT.out HF.out).mono ?_; rintro e w' ⟨rfl, rfl⟩)
    go_ret
    exact ⟨rfl, by first | exact below_alloc (below_alloc (below_alloc (below_alloc (below_alloc (Below.refl _ _) _) _) _) _) _ | exact (below_alloc (below_alloc (below_alloc (below_alloc (below_alloc (Below.refl _ _) _) _) _) _) _).setCell (Nat.le_refl _) _⟩

/-! mandrelref19_May: function 10: elsewhere -/

/-! mandrelref19_Hulls: function 11: elsewhere -/

end Go.Proofs.YtolhijnkgkfjgaaDoor.XC
