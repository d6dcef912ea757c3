/-
  NARROWER THAN 'FOR EVERY INPUT', by the rows' own cells (each row's printed sentence says how): LebTakes: laid · LebLong: laid · SectSplits: laid · SectOrder: laid · SectJoins: laid · SectBack: laid · SectTexts: laid.
  DERIVED. THE GIVEN ROWS OF THIS SEAT. 7 by the template 'for every input the law returns true; each argument reads behind the call as it read before'; 0 by the template 'total and deterministic' (their statements: YtljmikfpknmnnaaDoorTotals.lean).
  GIVEN WITH THE SEED: the statements are not yours to turn. If you find one false, say at which input.
  Laid BY PROGRAM, IN A SANDBOX (cutbox-rows.mjs): the forced cells as the released guide's own fill.sh prints them over the translation 9fadd555968530ad… (all of the seat's roots in one cut). By AI agents, Wed Nov 11 2026. No macro, syntax, notation, axiom, sorry.
-/
import Derived.Test.YtljmikfpknmnnaaDoorChecked
import GoSem.Claim
import GoSem.ClaimJoined
import GoSem.ClaimMapViews
import Derived.JoinedTies
import Derived.KernelRfl
namespace Go.Proofs.YtljmikfpknmnnaaDoor
/- THE CELL 'sum', in the pinned program and in every row, IS THE sha256 OF THE DUMP (.gsa) THAT YtljmikfpknmnnaaDoorProg.lean LOADS. Nothing in Lean hashes anything: it is a label: what it is worth is what the hold of that sum in a sandbox is worth. -/
noncomputable def Tryd.pinned : Pinned := { name := "ytljmikfpknmnnaadoor", sum := "9fadd555968530adf6968ae7940bc11b149c5b60dbe507516a2324154e8c44bc", checked := Tryd.checked }
namespace Rows
def none {H : Type} : Left H := { results := [], args := [] }

/- WHAT THE LISTED PACKAGE-LEVEL VARIABLES READ AS WHEN THE CALL BEGINS. Each datum BY PROGRAM (the guide's laid-datum.mjs) off the statement by which the dump's own 'gosem.cut.vars' lays the variable. In a bare row this is a premise. The card (YtljmikfpknmnnaaDoorCards.lean) ties it to the program's text. -/
def laid_errors_errorType {H : Type} : DataW H := .iface "internal/reflectlite.rtype" (.agg [.ptr (.lit (.string [101, 114, 114, 111, 114]))])

/-- 'mandrellaw01.LebTakes': WHATEVER THE INPUT: true; the input reads as it did. -/
def lebTakesSpec : ChangeSpec := { name := "lebTakes", fn := fun _ => fun
  | [d1, d2] => { results := [.lit (.bool true)], args := [d1, d2] }
  | _ => none }
def lebTakesRow : OpenClaim := { program := "ytljmikfpknmnnaadoor", sum := "9fadd555968530adf6968ae7940bc11b149c5b60dbe507516a2324154e8c44bc", func := "mandrel/mandrellaw01.LebTakes", spec := "lebTakes", inPlace := ["internal/reflectlite.ValueOf", "(internal/reflectlite.Value).Type", "(internal/reflectlite.Value).IsNil", "internal/reflectlite.TypeOf", "(internal/reflectlite.Value).Elem", "(internal/reflectlite.Value).Set"], unfollowed := true, recurses := true, named := ["errors.errorType"], apart := false, laid := [("errors.errorType", laid_errors_errorType)] }
def LebTakesSaid : Prop := lebTakesRow.holds Tryd.pinned (OpenSpec.ofChange lebTakesSpec)

/-- ITS FALSE NEIGHBOUR: 'it returns false'. Refute it at one input. -/
def lebTakesWrong : ChangeSpec := { name := "lebTakes", fn := fun _ => fun
  | [d1, d2] => { results := [.lit (.bool false)], args := [d1, d2] }
  | _ => none }
def LebTakesWrongFalsely : Prop := lebTakesRow.holds Tryd.pinned (OpenSpec.ofChange lebTakesWrong)

/-- 'mandrellaw01.LebLong': WHATEVER THE INPUT: true; the input reads as it did. -/
def lebLongSpec : ChangeSpec := { name := "lebLong", fn := fun _ => fun
  | [d1, d2] => { results := [.lit (.bool true)], args := [d1, d2] }
  | _ => none }
def lebLongRow : OpenClaim := { program := "ytljmikfpknmnnaadoor", sum := "9fadd555968530adf6968ae7940bc11b149c5b60dbe507516a2324154e8c44bc", func := "mandrel/mandrellaw01.LebLong", spec := "lebLong", inPlace := ["internal/reflectlite.ValueOf", "(internal/reflectlite.Value).Type", "(internal/reflectlite.Value).IsNil", "internal/reflectlite.TypeOf", "(internal/reflectlite.Value).Elem", "(internal/reflectlite.Value).Set"], unfollowed := true, recurses := true, named := ["errors.errorType"], apart := false, laid := [("errors.errorType", laid_errors_errorType)] }
def LebLongSaid : Prop := lebLongRow.holds Tryd.pinned (OpenSpec.ofChange lebLongSpec)

/-- ITS FALSE NEIGHBOUR: 'it returns false'. Refute it at one input. -/
def lebLongWrong : ChangeSpec := { name := "lebLong", fn := fun _ => fun
  | [d1, d2] => { results := [.lit (.bool false)], args := [d1, d2] }
  | _ => none }
def LebLongWrongFalsely : Prop := lebLongRow.holds Tryd.pinned (OpenSpec.ofChange lebLongWrong)

/-- 'mandrellaw06.SectSplits': WHATEVER THE INPUT: true; the input reads as it did. -/
def sectSplitsSpec : ChangeSpec := { name := "sectSplits", fn := fun _ => fun
  | [d] => { results := [.lit (.bool true)], args := [d] }
  | _ => none }
def sectSplitsRow : OpenClaim := { program := "ytljmikfpknmnnaadoor", sum := "9fadd555968530adf6968ae7940bc11b149c5b60dbe507516a2324154e8c44bc", func := "mandrel/mandrellaw06.SectSplits", spec := "sectSplits", inPlace := ["internal/reflectlite.ValueOf", "(internal/reflectlite.Value).Type", "(internal/reflectlite.Value).IsNil", "internal/reflectlite.TypeOf", "(internal/reflectlite.Value).Elem", "(internal/reflectlite.Value).Set"], unfollowed := true, recurses := true, named := ["errors.errorType"], apart := false, laid := [("errors.errorType", laid_errors_errorType)] }
def SectSplitsSaid : Prop := sectSplitsRow.holds Tryd.pinned (OpenSpec.ofChange sectSplitsSpec)

/-- ITS FALSE NEIGHBOUR: 'it returns false'. Refute it at one input. -/
def sectSplitsWrong : ChangeSpec := { name := "sectSplits", fn := fun _ => fun
  | [d] => { results := [.lit (.bool false)], args := [d] }
  | _ => none }
def SectSplitsWrongFalsely : Prop := sectSplitsRow.holds Tryd.pinned (OpenSpec.ofChange sectSplitsWrong)

/-- 'mandrellaw06.SectOrder': WHATEVER THE INPUT: true; the input reads as it did. -/
def sectOrderSpec : ChangeSpec := { name := "sectOrder", fn := fun _ => fun
  | [d1, d2] => { results := [.lit (.bool true)], args := [d1, d2] }
  | _ => none }
def sectOrderRow : OpenClaim := { program := "ytljmikfpknmnnaadoor", sum := "9fadd555968530adf6968ae7940bc11b149c5b60dbe507516a2324154e8c44bc", func := "mandrel/mandrellaw06.SectOrder", spec := "sectOrder", inPlace := ["internal/reflectlite.ValueOf", "(internal/reflectlite.Value).Type", "(internal/reflectlite.Value).IsNil", "internal/reflectlite.TypeOf", "(internal/reflectlite.Value).Elem", "(internal/reflectlite.Value).Set"], unfollowed := true, recurses := true, named := ["errors.errorType"], apart := false, laid := [("errors.errorType", laid_errors_errorType)] }
def SectOrderSaid : Prop := sectOrderRow.holds Tryd.pinned (OpenSpec.ofChange sectOrderSpec)

/-- ITS FALSE NEIGHBOUR: 'it returns false'. Refute it at one input. -/
def sectOrderWrong : ChangeSpec := { name := "sectOrder", fn := fun _ => fun
  | [d1, d2] => { results := [.lit (.bool false)], args := [d1, d2] }
  | _ => none }
def SectOrderWrongFalsely : Prop := sectOrderRow.holds Tryd.pinned (OpenSpec.ofChange sectOrderWrong)

/-- 'mandrellaw06.SectJoins': WHATEVER THE INPUT: true; the input reads as it did. -/
def sectJoinsSpec : ChangeSpec := { name := "sectJoins", fn := fun _ => fun
  | [d] => { results := [.lit (.bool true)], args := [d] }
  | _ => none }
def sectJoinsRow : OpenClaim := { program := "ytljmikfpknmnnaadoor", sum := "9fadd555968530adf6968ae7940bc11b149c5b60dbe507516a2324154e8c44bc", func := "mandrel/mandrellaw06.SectJoins", spec := "sectJoins", inPlace := ["internal/reflectlite.ValueOf", "(internal/reflectlite.Value).Type", "(internal/reflectlite.Value).IsNil", "internal/reflectlite.TypeOf", "(internal/reflectlite.Value).Elem", "(internal/reflectlite.Value).Set"], unfollowed := true, recurses := true, named := ["errors.errorType"], apart := false, laid := [("errors.errorType", laid_errors_errorType)] }
def SectJoinsSaid : Prop := sectJoinsRow.holds Tryd.pinned (OpenSpec.ofChange sectJoinsSpec)

/-- ITS FALSE NEIGHBOUR: 'it returns false'. Refute it at one input. -/
def sectJoinsWrong : ChangeSpec := { name := "sectJoins", fn := fun _ => fun
  | [d] => { results := [.lit (.bool false)], args := [d] }
  | _ => none }
def SectJoinsWrongFalsely : Prop := sectJoinsRow.holds Tryd.pinned (OpenSpec.ofChange sectJoinsWrong)

/-- 'mandrellaw06.SectBack': WHATEVER THE INPUT: true; the input reads as it did. -/
def sectBackSpec : ChangeSpec := { name := "sectBack", fn := fun _ => fun
  | [d1, d2] => { results := [.lit (.bool true)], args := [d1, d2] }
  | _ => none }
def sectBackRow : OpenClaim := { program := "ytljmikfpknmnnaadoor", sum := "9fadd555968530adf6968ae7940bc11b149c5b60dbe507516a2324154e8c44bc", func := "mandrel/mandrellaw06.SectBack", spec := "sectBack", inPlace := ["internal/reflectlite.ValueOf", "(internal/reflectlite.Value).Type", "(internal/reflectlite.Value).IsNil", "internal/reflectlite.TypeOf", "(internal/reflectlite.Value).Elem", "(internal/reflectlite.Value).Set"], unfollowed := true, recurses := true, named := ["errors.errorType"], apart := false, laid := [("errors.errorType", laid_errors_errorType)] }
def SectBackSaid : Prop := sectBackRow.holds Tryd.pinned (OpenSpec.ofChange sectBackSpec)

/-- ITS FALSE NEIGHBOUR: 'it returns false'. Refute it at one input. -/
def sectBackWrong : ChangeSpec := { name := "sectBack", fn := fun _ => fun
  | [d1, d2] => { results := [.lit (.bool false)], args := [d1, d2] }
  | _ => none }
def SectBackWrongFalsely : Prop := sectBackRow.holds Tryd.pinned (OpenSpec.ofChange sectBackWrong)

/-- 'mandrellaw06.SectTexts': WHATEVER THE INPUT: true; the input reads as it did. -/
def sectTextsSpec : ChangeSpec := { name := "sectTexts", fn := fun _ => fun
  | [d1, d2] => { results := [.lit (.bool true)], args := [d1, d2] }
  | _ => none }
def sectTextsRow : OpenClaim := { program := "ytljmikfpknmnnaadoor", sum := "9fadd555968530adf6968ae7940bc11b149c5b60dbe507516a2324154e8c44bc", func := "mandrel/mandrellaw06.SectTexts", spec := "sectTexts", inPlace := ["internal/reflectlite.ValueOf", "(internal/reflectlite.Value).Type", "(internal/reflectlite.Value).IsNil", "internal/reflectlite.TypeOf", "(internal/reflectlite.Value).Elem", "(internal/reflectlite.Value).Set"], unfollowed := true, recurses := true, named := ["errors.errorType"], apart := false, laid := [("errors.errorType", laid_errors_errorType)] }
def SectTextsSaid : Prop := sectTextsRow.holds Tryd.pinned (OpenSpec.ofChange sectTextsSpec)

/-- ITS FALSE NEIGHBOUR: 'it returns false'. Refute it at one input. -/
def sectTextsWrong : ChangeSpec := { name := "sectTexts", fn := fun _ => fun
  | [d1, d2] => { results := [.lit (.bool false)], args := [d1, d2] }
  | _ => none }
def SectTextsWrongFalsely : Prop := sectTextsRow.holds Tryd.pinned (OpenSpec.ofChange sectTextsWrong)

/- THE SECOND FORM. 'bulk': how many values and letters a reading holds, each counted each time it is reached (what is shared counts as often as it is met; a slice's spare places count too). A statement '..UptoSaid' is the law's where the arguments, and the package variables that the reading takes, are together of bulk at most 1048576: NARROWER than '..Said'. Prove '..Said' where nothing that the law and all that it calls make is longer than what came in: it says more and counts as full. Else prove '..UptoSaid'. A law counts once. -/
mutual
def uptoBulk {H : Type} : DataW H → Nat
  | .lit (.string bytes) => bytes.length + 1
  | .lit _ => 1
  | .nil => 1
  | .ptr d => uptoBulk d + 1
  | .slice elems spare => uptoBulkAll elems + uptoBulkAll spare + 1
  | .agg parts => uptoBulkAll parts + 1
  | .iface _ d => uptoBulk d + 1
  | .map entries => uptoBulkEntries entries + 1
  | .held _ => 1
def uptoBulkAll {H : Type} : List (DataW H) → Nat
  | [] => 0
  | d :: r => uptoBulk d + uptoBulkAll r
def uptoBulkEntries {H : Type} : List (Lit × DataW H) → Nat
  | [] => 0
  | x :: r => uptoBulkEntry x + uptoBulkEntries r
def uptoBulkEntry {H : Type} : Lit × DataW H → Nat
  | (.string bytes, d) => bytes.length + uptoBulk d + 1
  | (_, d) => uptoBulk d + 1
 end
def uptoSmall : (H : Type) → List (DataW H) → Bool := fun _ ds => decide (uptoBulkAll ds ≤ 1048576)
def OpenSpec.upto (s : _root_.Go.ChangeSpec) : _root_.Go.OpenSpec := { _root_.Go.OpenSpec.ofChange s with cond := some uptoSmall }

/-- 'mandrellaw01.LebTakes', WHERE WHAT IT READS IS OF BULK AT MOST 1048576: true; the input reads as it did. -/
def lebTakesUptoRow : OpenClaim := { program := "ytljmikfpknmnnaadoor", sum := "9fadd555968530adf6968ae7940bc11b149c5b60dbe507516a2324154e8c44bc", func := "mandrel/mandrellaw01.LebTakes", spec := "lebTakes", inPlace := ["internal/reflectlite.ValueOf", "(internal/reflectlite.Value).Type", "(internal/reflectlite.Value).IsNil", "internal/reflectlite.TypeOf", "(internal/reflectlite.Value).Elem", "(internal/reflectlite.Value).Set"], unfollowed := true, recurses := true, named := ["errors.errorType"], apart := false, laid := [("errors.errorType", laid_errors_errorType)], narrowed := true }
def LebTakesUptoSaid : Prop := lebTakesUptoRow.holds Tryd.pinned (OpenSpec.upto lebTakesSpec)

/-- 'mandrellaw01.LebLong', WHERE WHAT IT READS IS OF BULK AT MOST 1048576: true; the input reads as it did. -/
def lebLongUptoRow : OpenClaim := { program := "ytljmikfpknmnnaadoor", sum := "9fadd555968530adf6968ae7940bc11b149c5b60dbe507516a2324154e8c44bc", func := "mandrel/mandrellaw01.LebLong", spec := "lebLong", inPlace := ["internal/reflectlite.ValueOf", "(internal/reflectlite.Value).Type", "(internal/reflectlite.Value).IsNil", "internal/reflectlite.TypeOf", "(internal/reflectlite.Value).Elem", "(internal/reflectlite.Value).Set"], unfollowed := true, recurses := true, named := ["errors.errorType"], apart := false, laid := [("errors.errorType", laid_errors_errorType)], narrowed := true }
def LebLongUptoSaid : Prop := lebLongUptoRow.holds Tryd.pinned (OpenSpec.upto lebLongSpec)

/-- 'mandrellaw06.SectSplits', WHERE WHAT IT READS IS OF BULK AT MOST 1048576: true; the input reads as it did. -/
def sectSplitsUptoRow : OpenClaim := { program := "ytljmikfpknmnnaadoor", sum := "9fadd555968530adf6968ae7940bc11b149c5b60dbe507516a2324154e8c44bc", func := "mandrel/mandrellaw06.SectSplits", spec := "sectSplits", inPlace := ["internal/reflectlite.ValueOf", "(internal/reflectlite.Value).Type", "(internal/reflectlite.Value).IsNil", "internal/reflectlite.TypeOf", "(internal/reflectlite.Value).Elem", "(internal/reflectlite.Value).Set"], unfollowed := true, recurses := true, named := ["errors.errorType"], apart := false, laid := [("errors.errorType", laid_errors_errorType)], narrowed := true }
def SectSplitsUptoSaid : Prop := sectSplitsUptoRow.holds Tryd.pinned (OpenSpec.upto sectSplitsSpec)

/-- 'mandrellaw06.SectOrder', WHERE WHAT IT READS IS OF BULK AT MOST 1048576: true; the input reads as it did. -/
def sectOrderUptoRow : OpenClaim := { program := "ytljmikfpknmnnaadoor", sum := "9fadd555968530adf6968ae7940bc11b149c5b60dbe507516a2324154e8c44bc", func := "mandrel/mandrellaw06.SectOrder", spec := "sectOrder", inPlace := ["internal/reflectlite.ValueOf", "(internal/reflectlite.Value).Type", "(internal/reflectlite.Value).IsNil", "internal/reflectlite.TypeOf", "(internal/reflectlite.Value).Elem", "(internal/reflectlite.Value).Set"], unfollowed := true, recurses := true, named := ["errors.errorType"], apart := false, laid := [("errors.errorType", laid_errors_errorType)], narrowed := true }
def SectOrderUptoSaid : Prop := sectOrderUptoRow.holds Tryd.pinned (OpenSpec.upto sectOrderSpec)

/-- 'mandrellaw06.SectJoins', WHERE WHAT IT READS IS OF BULK AT MOST 1048576: true; the input reads as it did. -/
def sectJoinsUptoRow : OpenClaim := { program := "ytljmikfpknmnnaadoor", sum := "9fadd555968530adf6968ae7940bc11b149c5b60dbe507516a2324154e8c44bc", func := "mandrel/mandrellaw06.SectJoins", spec := "sectJoins", inPlace := ["internal/reflectlite.ValueOf", "(internal/reflectlite.Value).Type", "(internal/reflectlite.Value).IsNil", "internal/reflectlite.TypeOf", "(internal/reflectlite.Value).Elem", "(internal/reflectlite.Value).Set"], unfollowed := true, recurses := true, named := ["errors.errorType"], apart := false, laid := [("errors.errorType", laid_errors_errorType)], narrowed := true }
def SectJoinsUptoSaid : Prop := sectJoinsUptoRow.holds Tryd.pinned (OpenSpec.upto sectJoinsSpec)

/-- 'mandrellaw06.SectBack', WHERE WHAT IT READS IS OF BULK AT MOST 1048576: true; the input reads as it did. -/
def sectBackUptoRow : OpenClaim := { program := "ytljmikfpknmnnaadoor", sum := "9fadd555968530adf6968ae7940bc11b149c5b60dbe507516a2324154e8c44bc", func := "mandrel/mandrellaw06.SectBack", spec := "sectBack", inPlace := ["internal/reflectlite.ValueOf", "(internal/reflectlite.Value).Type", "(internal/reflectlite.Value).IsNil", "internal/reflectlite.TypeOf", "(internal/reflectlite.Value).Elem", "(internal/reflectlite.Value).Set"], unfollowed := true, recurses := true, named := ["errors.errorType"], apart := false, laid := [("errors.errorType", laid_errors_errorType)], narrowed := true }
def SectBackUptoSaid : Prop := sectBackUptoRow.holds Tryd.pinned (OpenSpec.upto sectBackSpec)

/-- 'mandrellaw06.SectTexts', WHERE WHAT IT READS IS OF BULK AT MOST 1048576: true; the input reads as it did. -/
def sectTextsUptoRow : OpenClaim := { program := "ytljmikfpknmnnaadoor", sum := "9fadd555968530adf6968ae7940bc11b149c5b60dbe507516a2324154e8c44bc", func := "mandrel/mandrellaw06.SectTexts", spec := "sectTexts", inPlace := ["internal/reflectlite.ValueOf", "(internal/reflectlite.Value).Type", "(internal/reflectlite.Value).IsNil", "internal/reflectlite.TypeOf", "(internal/reflectlite.Value).Elem", "(internal/reflectlite.Value).Set"], unfollowed := true, recurses := true, named := ["errors.errorType"], apart := false, laid := [("errors.errorType", laid_errors_errorType)], narrowed := true }
def SectTextsUptoSaid : Prop := sectTextsUptoRow.holds Tryd.pinned (OpenSpec.upto sectTextsSpec)

end Rows
end Go.Proofs.YtljmikfpknmnnaaDoor
