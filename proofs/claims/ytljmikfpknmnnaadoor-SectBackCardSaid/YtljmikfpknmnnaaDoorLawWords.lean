/- The laws of joined sections: what their first loops tell: the document's sections as the program's, and how many bytes. -/
import Derived.Test.YtljmikfpknmnnaaDoorJoinPure
import Derived.Test.YtljmikfpknmnnaaDoorXSx6
namespace Go.Proofs.YtljmikfpknmnnaaDoor.XS
open Go Go.RowKit Go.Proofs.YtljmikfpknmnnaaDoorW.PrintWords Go.Proofs.YtljmikfpknmnnaaDoorW.PrintLast Go.Proofs.YtljmikfpknmnnaaDoorW.PrintMore
attribute [local go_sem] max2_int min2_int max_two min_two max_three min_three max_four min_four
set_option linter.unusedVariables false
set_option linter.unusedSimpArgs false
def toS (x : S52) : S53 := ⟨x.f0, x.f1, x.f2⟩
def sumB : List S52 → Nat
  | [] => 0
  | x :: l => min x.f2.length 4000 + sumB l
theorem sumB_app (l m : List S52) : sumB (l ++ m) = sumB l + sumB m := by
  induction l with
  | nil => simp [sumB]
  | cons x l ih => rw [List.cons_append, sumB, ih, sumB]; omega
theorem sumB_take (l : List S52) (i : Nat) (h : i < l.length) : sumB (l.take (i + 1)) = sumB (l.take i) + min (rd_T52 l (i : Int)).f2.length 4000 := by
  rw [List.take_succ_eq_append_getElem h, sumB_app]
  simp [sumB, rd_T52, List.getD_eq_getElem?_getD, List.getElem?_eq_getElem h]
theorem sumB_le (l : List S52) (i : Nat) : sumB (l.take i) ≤ 4000 * i := by
  induction i generalizing l with
  | zero => simp [sumB]
  | succ i ih =>
    cases l with
    | nil => simp [sumB]
    | cons x l => have := ih l; rw [List.take_succ_cons, sumB]; omega
theorem minI (a b : Nat) : (if (a : Int) ≤ (b : Int) then (a : Int) else (b : Int)) = ((min a b : Nat) : Int) := by split <;> omega
end Go.Proofs.YtljmikfpknmnnaaDoor.XS
