/- Plan where it answers an error: the walk. -/
import Derived.Test.YtaklfdlcedlmfaaHit
namespace Go.Proofs.Ytaklfdlcedlmfaa.XM
open Go.RowKit Go.Proofs.YtaklfdlcedlmfaaW.PrintWords Go.Proofs.YtaklfdlcedlmfaaW.PrintLast Go.Proofs.YtaklfdlcedlmfaaW.PrintMore
open Mo
attribute [local go_sem] max2_int min2_int max_two min_two max_three min_three max_four min_four   -- for this text's walks alone
set_option linter.unusedVariables false
set_option linter.unusedSimpArgs false
/-- May they be planned? -/
def mayP (l : List Mv) (temp : Int) : Bool := okM l && !(away temp) && !(l.any (hits temp))
set_option maxHeartbeats 8000000 in
set_option maxRecDepth 100000 in
theorem moves_Plan.bad1 (A0 : Option Addr) (c0 : Nat) (l0 : List Mv) (temp : Int) (w : World) (hr0 : Kd.C k25 w A0 l0.length l0) (hc0 : l0.length ≤ c0) (hn0 : l0.length < 1000000000) (hok : okM l0 = false) :
    Calls Try.prog 5 #[.slice A0 l0.length c0, .int .i64 temp] w fun e w' => e = .returned (.tuple #[.slice none 0 0, .iface 48 (.int .i64 1)]) ∧ Below w.heap.size w w' := by
  have C := fun (W : World) (hb : Below w.heap.size w W) => moves_Rings.bad A0 c0 l0 W (Kd.C_below hr0 hb) hc0 hn0 hok
  have CC := Aside0.mk C
  clear C hr0 hc0 hn0
  go_enter Try.func5, Try.ntmps5
  go_wp2_with (first
    | ((with_reducible refine gate_dst (N := 3) rfl ?_); refine box_event ?hg (N := 3) ?hd (cs := #[.int .i64 temp]) (t := 3) ?hr ?_; (case hd => rfl); (case hg => rfl); (case hr => first | (go_simp; done) | (go_simp; rfl)); intro gb hg w1 hbox hb; have HB := Aside0.mk hb; clear hg hbox hb)
    | (go_at_call 4; refine (CC.out _ HB.out).mono ?_; rintro e w2 ⟨rfl, hb⟩; have HB2 := Aside0.mk (below_step HB.out hb); clear hb; rw [errW_some]))
  go_ret2
  exact ⟨rfl, HB2.out⟩
set_option maxHeartbeats 8000000 in
set_option maxRecDepth 100000 in
theorem moves_Plan.bad2 (A0 : Option Addr) (c0 : Nat) (l0 : List Mv) (temp : Int) (w : World) (hr0 : Kd.C k25 w A0 l0.length l0) (hc0 : l0.length ≤ c0) (hn0 : l0.length < 1000000000) (hok : okM l0 = true) (hb : away temp = true ∨ l0.any (hits temp) = true) :
    Calls Try.prog 5 #[.slice A0 l0.length c0, .int .i64 temp] w fun e w' => e = .returned (.tuple #[.slice none 0 0, .iface 48 (.int .i64 1)]) ∧ Below w.heap.size w w' := by
  have hmf : ∀ (fn : Fn) (first cap : Array Value) (w : World), (Instr.makeFunc fn first cap).run Try.prog w = .ok (.func fn first cap) w := fun _ _ _ _ => rfl
  have CC := Aside0.mk (fun (W : World) (hb : Below w.heap.size w W) => moves_Rings.good A0 c0 l0 W (Kd.C_below hr0 hb) hc0 hn0 hok)
  have CH := Aside0.mk (fun (tp : Nat) (W : World) (hb : Below w.heap.size w W) (h1 : tp < W.heap.size) (h2 : W.cell? ⟨tp, 0, none⟩ = some (.int .i64 temp)) => hit.calls temp tp A0 c0 l0 W (Kd.C_below hr0 hb) hn0 h1 h2)
  clear hr0 hc0 hn0
  by_cases ha : away temp = true
  · have HA := Aside0.mk ha
    clear ha hb
    go_enter Try.func5, Try.ntmps5
    go_wp2_with (first
      | ((with_reducible refine gate_dst (N := 3) rfl ?_); refine box_event ?hg (N := 3) ?hd (cs := #[.int .i64 temp]) (t := 3) ?hr ?_; (case hd => rfl); (case hg => rfl); (case hr => first | (go_simp; done) | (go_simp; rfl)); intro gb hg w1 hbox hb; have HB := Aside0.mk hb; have HX := Aside0.mk hbox; clear hg hbox hb)
      | (go_at_call 4; refine (CC.out _ HB.out).mono ?_; rintro e w2 ⟨v, rfl, _, hb⟩; have HB2 := Aside0.mk (below_step HB.out hb); have hx := (hb.cell (p := ⟨gb, 0, none⟩) (blk_lt HX.out)).trans ((blk_cell HX.out 0).trans rfl); clear hb; rw [errW_none])
      | (go_at_call 13; (refine (aw.calls temp _).mono ?_; rintro e w8 ⟨rfl, ⟨nd, rfl⟩⟩; rw [HA.out])))
    go_ret2
    exact ⟨rfl, by repeat (first | exact HB2.out | apply pw_below_drewN)⟩
  · have HA := Aside0.mk ((Bool.not_eq_true _).mp ha)
    have HH := Aside0.mk (hb.resolve_left ha)
    clear ha hb
    go_enter Try.func5, Try.ntmps5
    go_wp2_with (first
      | ((with_reducible refine gate_dst (N := 3) rfl ?_); refine box_event ?hg (N := 3) ?hd (cs := #[.int .i64 temp]) (t := 3) ?hr ?_; (case hd => rfl); (case hg => rfl); (case hr => first | (go_simp; done) | (go_simp; rfl)); intro gb hg w1 hbox hb; have HB := Aside0.mk hb; have HX := Aside0.mk hbox; clear hg hbox hb)
      | (go_at_call 4; refine (CC.out _ HB.out).mono ?_; rintro e w2 ⟨v, rfl, _, hb⟩; have HB2 := Aside0.mk (below_step HB.out hb); have HX2 := Aside0.mk ((hb.block gb (blk_lt HX.out)).trans HX.out); have hx := (blk_cell HX2.out 0).trans rfl; clear hb; rw [errW_none])
      | (go_at_call 13; (refine (aw.calls temp _).mono ?_; rintro e w8 ⟨rfl, ⟨nd, rfl⟩⟩; rw [HA.out]))
      | (go_at_call 14; refine (CH.out gb _ ?ga ?gb ?gc).mono ?_; (case ga => repeat (first | exact HB2.out | apply pw_below_drewN)); (case gb => exact blk_lt HX2.out); (case gc => exact (blk_cell HX2.out 0).trans rfl); rintro e w9 ⟨rfl, hb⟩; have HB9 := Aside0.mk (below_step (by repeat (first | exact HB2.out | apply pw_below_drewN)) hb); clear hb; rw [HH.out]))
    go_ret2
    exact ⟨rfl, HB9.out⟩
end Go.Proofs.Ytaklfdlcedlmfaa.XM
