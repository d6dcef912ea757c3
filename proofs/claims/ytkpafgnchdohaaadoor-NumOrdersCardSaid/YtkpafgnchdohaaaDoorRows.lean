/-
  NARROWER THAN 'FOR EVERY INPUT', by the rows' own cells (each row's printed sentence says how): NumParts: laid · NumTurns: laid · NumOrders: laid · NumExtends: laid · NumOnes: laid · NumTwos: laid · NumKinds: laid.
  DERIVED. THE GIVEN ROWS OF THIS SEAT. 7 by the template 'for every input the law returns true; each argument reads behind the call as it read before'; 0 by the template 'total and deterministic' (their statements: YtkpafgnchdohaaaDoorTotals.lean).
  GIVEN WITH THE SEED: the statements are not yours to turn. If you find one false, say at which input.
  Laid BY PROGRAM, IN A SANDBOX (cutbox-rows.mjs): the forced cells as the released guide's own fill.sh prints them over the translation bbfeaa9be96804cb… (all of the seat's roots in one cut). By AI agents, Wed Nov 11 2026. No macro, syntax, notation, axiom, sorry.
-/
import Derived.Test.YtkpafgnchdohaaaDoorChecked
import GoSem.Claim
import GoSem.ClaimJoined
import GoSem.ClaimMapViews
import Derived.JoinedTies
import Derived.KernelRfl
namespace Go.Proofs.YtkpafgnchdohaaaDoor
/- THE CELL 'sum', in the pinned program and in every row, IS THE sha256 OF THE DUMP (.gsa) THAT YtkpafgnchdohaaaDoorProg.lean LOADS. Nothing in Lean hashes anything: it is a label: what it is worth is what the hold of that sum in a sandbox is worth. -/
noncomputable def Tryd.pinned : Pinned := { name := "ytkpafgnchdohaaadoor", sum := "bbfeaa9be96804cb7849c70d55e3c7709972dac76bdd73033b111a28fdcbd2d6", checked := Tryd.checked }
namespace Rows
def none {H : Type} : Left H := { results := [], args := [] }

/- WHAT THE LISTED PACKAGE-LEVEL VARIABLES READ AS WHEN THE CALL BEGINS. Each datum BY PROGRAM (the guide's laid-datum.mjs) off the statement by which the dump's own 'gosem.cut.vars' lays the variable. In a bare row this is a premise. The card (YtkpafgnchdohaaaDoorCards.lean) ties it to the program's text. -/
def laid_math_bits_deBruijn64tab {H : Type} : DataW H := .agg [.lit (.int .u8 0), .lit (.int .u8 1), .lit (.int .u8 56), .lit (.int .u8 2), .lit (.int .u8 57), .lit (.int .u8 49), .lit (.int .u8 28), .lit (.int .u8 3), .lit (.int .u8 61), .lit (.int .u8 58), .lit (.int .u8 42), .lit (.int .u8 50), .lit (.int .u8 38), .lit (.int .u8 29), .lit (.int .u8 17), .lit (.int .u8 4), .lit (.int .u8 62), .lit (.int .u8 47), .lit (.int .u8 59), .lit (.int .u8 36), .lit (.int .u8 45), .lit (.int .u8 43), .lit (.int .u8 51), .lit (.int .u8 22), .lit (.int .u8 53), .lit (.int .u8 39), .lit (.int .u8 33), .lit (.int .u8 30), .lit (.int .u8 24), .lit (.int .u8 18), .lit (.int .u8 12), .lit (.int .u8 5), .lit (.int .u8 63), .lit (.int .u8 55), .lit (.int .u8 48), .lit (.int .u8 27), .lit (.int .u8 60), .lit (.int .u8 41), .lit (.int .u8 37), .lit (.int .u8 16), .lit (.int .u8 46), .lit (.int .u8 35), .lit (.int .u8 44), .lit (.int .u8 21), .lit (.int .u8 52), .lit (.int .u8 32), .lit (.int .u8 23), .lit (.int .u8 11), .lit (.int .u8 54), .lit (.int .u8 26), .lit (.int .u8 40), .lit (.int .u8 15), .lit (.int .u8 34), .lit (.int .u8 20), .lit (.int .u8 31), .lit (.int .u8 10), .lit (.int .u8 25), .lit (.int .u8 14), .lit (.int .u8 19), .lit (.int .u8 9), .lit (.int .u8 13), .lit (.int .u8 8), .lit (.int .u8 7), .lit (.int .u8 6)]
def laid_errors_errorType {H : Type} : DataW H := .iface "internal/reflectlite.rtype" (.agg [.ptr (.lit (.string [101, 114, 114, 111, 114]))])

/-- 'mandrellaw02.NumParts': WHATEVER THE INPUT: true; the input reads as it did. -/
def numPartsSpec : ChangeSpec := { name := "numParts", fn := fun _ => fun
  | [d1, d2, d3] => { results := [.lit (.bool true)], args := [d1, d2, d3] }
  | _ => none }
def numPartsRow : OpenClaim := { program := "ytkpafgnchdohaaadoor", sum := "bbfeaa9be96804cb7849c70d55e3c7709972dac76bdd73033b111a28fdcbd2d6", func := "mandrel/mandrellaw02.NumParts", spec := "numParts", named := ["math/bits.deBruijn64tab"], apart := false, laid := [("math/bits.deBruijn64tab", laid_math_bits_deBruijn64tab)] }
def NumPartsSaid : Prop := numPartsRow.holds Tryd.pinned (OpenSpec.ofChange numPartsSpec)

/-- ITS FALSE NEIGHBOUR: 'it returns false'. Refute it at one input. -/
def numPartsWrong : ChangeSpec := { name := "numParts", fn := fun _ => fun
  | [d1, d2, d3] => { results := [.lit (.bool false)], args := [d1, d2, d3] }
  | _ => none }
def NumPartsWrongFalsely : Prop := numPartsRow.holds Tryd.pinned (OpenSpec.ofChange numPartsWrong)

/-- 'mandrellaw02.NumTurns': WHATEVER THE INPUT: true; the input reads as it did. -/
def numTurnsSpec : ChangeSpec := { name := "numTurns", fn := fun _ => fun
  | [d1, d2, d3] => { results := [.lit (.bool true)], args := [d1, d2, d3] }
  | _ => none }
def numTurnsRow : OpenClaim := { program := "ytkpafgnchdohaaadoor", sum := "bbfeaa9be96804cb7849c70d55e3c7709972dac76bdd73033b111a28fdcbd2d6", func := "mandrel/mandrellaw02.NumTurns", spec := "numTurns", named := ["math/bits.deBruijn64tab"], apart := false, laid := [("math/bits.deBruijn64tab", laid_math_bits_deBruijn64tab)] }
def NumTurnsSaid : Prop := numTurnsRow.holds Tryd.pinned (OpenSpec.ofChange numTurnsSpec)

/-- ITS FALSE NEIGHBOUR: 'it returns false'. Refute it at one input. -/
def numTurnsWrong : ChangeSpec := { name := "numTurns", fn := fun _ => fun
  | [d1, d2, d3] => { results := [.lit (.bool false)], args := [d1, d2, d3] }
  | _ => none }
def NumTurnsWrongFalsely : Prop := numTurnsRow.holds Tryd.pinned (OpenSpec.ofChange numTurnsWrong)

/-- 'mandrellaw02.NumOrders': WHATEVER THE INPUT: true; the input reads as it did. -/
def numOrdersSpec : ChangeSpec := { name := "numOrders", fn := fun _ => fun
  | [d1, d2, d3] => { results := [.lit (.bool true)], args := [d1, d2, d3] }
  | _ => none }
def numOrdersRow : OpenClaim := { program := "ytkpafgnchdohaaadoor", sum := "bbfeaa9be96804cb7849c70d55e3c7709972dac76bdd73033b111a28fdcbd2d6", func := "mandrel/mandrellaw02.NumOrders", spec := "numOrders", named := ["math/bits.deBruijn64tab"], apart := false, laid := [("math/bits.deBruijn64tab", laid_math_bits_deBruijn64tab)] }
def NumOrdersSaid : Prop := numOrdersRow.holds Tryd.pinned (OpenSpec.ofChange numOrdersSpec)

/-- ITS FALSE NEIGHBOUR: 'it returns false'. Refute it at one input. -/
def numOrdersWrong : ChangeSpec := { name := "numOrders", fn := fun _ => fun
  | [d1, d2, d3] => { results := [.lit (.bool false)], args := [d1, d2, d3] }
  | _ => none }
def NumOrdersWrongFalsely : Prop := numOrdersRow.holds Tryd.pinned (OpenSpec.ofChange numOrdersWrong)

/-- 'mandrellaw02.NumExtends': WHATEVER THE INPUT: true; the input reads as it did. -/
def numExtendsSpec : ChangeSpec := { name := "numExtends", fn := fun _ => fun
  | [d] => { results := [.lit (.bool true)], args := [d] }
  | _ => none }
def numExtendsRow : OpenClaim := { program := "ytkpafgnchdohaaadoor", sum := "bbfeaa9be96804cb7849c70d55e3c7709972dac76bdd73033b111a28fdcbd2d6", func := "mandrel/mandrellaw02.NumExtends", spec := "numExtends", named := ["math/bits.deBruijn64tab"], apart := false, laid := [("math/bits.deBruijn64tab", laid_math_bits_deBruijn64tab)] }
def NumExtendsSaid : Prop := numExtendsRow.holds Tryd.pinned (OpenSpec.ofChange numExtendsSpec)

/-- ITS FALSE NEIGHBOUR: 'it returns false'. Refute it at one input. -/
def numExtendsWrong : ChangeSpec := { name := "numExtends", fn := fun _ => fun
  | [d] => { results := [.lit (.bool false)], args := [d] }
  | _ => none }
def NumExtendsWrongFalsely : Prop := numExtendsRow.holds Tryd.pinned (OpenSpec.ofChange numExtendsWrong)

/-- 'mandrellaw02.NumOnes': WHATEVER THE INPUT: true; the input reads as it did. -/
def numOnesSpec : ChangeSpec := { name := "numOnes", fn := fun _ => fun
  | [d1, d2] => { results := [.lit (.bool true)], args := [d1, d2] }
  | _ => none }
def numOnesRow : OpenClaim := { program := "ytkpafgnchdohaaadoor", sum := "bbfeaa9be96804cb7849c70d55e3c7709972dac76bdd73033b111a28fdcbd2d6", func := "mandrel/mandrellaw02.NumOnes", spec := "numOnes", inPlace := ["internal/reflectlite.ValueOf", "(internal/reflectlite.Value).Type", "(internal/reflectlite.Value).IsNil", "internal/reflectlite.TypeOf", "(internal/reflectlite.Value).Elem", "(internal/reflectlite.Value).Set"], unfollowed := true, recurses := true, named := ["math/bits.deBruijn64tab", "errors.errorType"], apart := false, laid := [("math/bits.deBruijn64tab", laid_math_bits_deBruijn64tab), ("errors.errorType", laid_errors_errorType)] }
def NumOnesSaid : Prop := numOnesRow.holds Tryd.pinned (OpenSpec.ofChange numOnesSpec)

/-- ITS FALSE NEIGHBOUR: 'it returns false'. Refute it at one input. -/
def numOnesWrong : ChangeSpec := { name := "numOnes", fn := fun _ => fun
  | [d1, d2] => { results := [.lit (.bool false)], args := [d1, d2] }
  | _ => none }
def NumOnesWrongFalsely : Prop := numOnesRow.holds Tryd.pinned (OpenSpec.ofChange numOnesWrong)

/-- 'mandrellaw02.NumTwos': WHATEVER THE INPUT: true; the input reads as it did. -/
def numTwosSpec : ChangeSpec := { name := "numTwos", fn := fun _ => fun
  | [d1, d2, d3] => { results := [.lit (.bool true)], args := [d1, d2, d3] }
  | _ => none }
def numTwosRow : OpenClaim := { program := "ytkpafgnchdohaaadoor", sum := "bbfeaa9be96804cb7849c70d55e3c7709972dac76bdd73033b111a28fdcbd2d6", func := "mandrel/mandrellaw02.NumTwos", spec := "numTwos", inPlace := ["internal/reflectlite.ValueOf", "(internal/reflectlite.Value).Type", "(internal/reflectlite.Value).IsNil", "internal/reflectlite.TypeOf", "(internal/reflectlite.Value).Elem", "(internal/reflectlite.Value).Set"], unfollowed := true, recurses := true, named := ["errors.errorType", "math/bits.deBruijn64tab"], apart := false, laid := [("math/bits.deBruijn64tab", laid_math_bits_deBruijn64tab), ("errors.errorType", laid_errors_errorType)] }
def NumTwosSaid : Prop := numTwosRow.holds Tryd.pinned (OpenSpec.ofChange numTwosSpec)

/-- ITS FALSE NEIGHBOUR: 'it returns false'. Refute it at one input. -/
def numTwosWrong : ChangeSpec := { name := "numTwos", fn := fun _ => fun
  | [d1, d2, d3] => { results := [.lit (.bool false)], args := [d1, d2, d3] }
  | _ => none }
def NumTwosWrongFalsely : Prop := numTwosRow.holds Tryd.pinned (OpenSpec.ofChange numTwosWrong)

/-- 'mandrellaw02.NumKinds': WHATEVER THE INPUT: true; the input reads as it did. -/
def numKindsSpec : ChangeSpec := { name := "numKinds", fn := fun _ => fun
  | [d1, d2] => { results := [.lit (.bool true)], args := [d1, d2] }
  | _ => none }
def numKindsRow : OpenClaim := { program := "ytkpafgnchdohaaadoor", sum := "bbfeaa9be96804cb7849c70d55e3c7709972dac76bdd73033b111a28fdcbd2d6", func := "mandrel/mandrellaw02.NumKinds", spec := "numKinds", inPlace := ["internal/reflectlite.ValueOf", "(internal/reflectlite.Value).Type", "(internal/reflectlite.Value).IsNil", "internal/reflectlite.TypeOf", "(internal/reflectlite.Value).Elem", "(internal/reflectlite.Value).Set"], unfollowed := true, recurses := true, named := ["math/bits.deBruijn64tab", "errors.errorType"], apart := false, laid := [("math/bits.deBruijn64tab", laid_math_bits_deBruijn64tab), ("errors.errorType", laid_errors_errorType)] }
def NumKindsSaid : Prop := numKindsRow.holds Tryd.pinned (OpenSpec.ofChange numKindsSpec)

/-- ITS FALSE NEIGHBOUR: 'it returns false'. Refute it at one input. -/
def numKindsWrong : ChangeSpec := { name := "numKinds", fn := fun _ => fun
  | [d1, d2] => { results := [.lit (.bool false)], args := [d1, d2] }
  | _ => none }
def NumKindsWrongFalsely : Prop := numKindsRow.holds Tryd.pinned (OpenSpec.ofChange numKindsWrong)

/- THE SECOND FORM. 'bulk': how many values and letters a reading holds, each counted each time it is reached (what is shared counts as often as it is met; a slice's spare places count too). A statement '..UptoSaid' is the law's where the arguments, and the package variables that the reading takes, are together of bulk at most 1048576: NARROWER than '..Said'. Prove '..Said' where nothing that the law and all that it calls make is longer than what came in: it says more and counts as full. Else prove '..UptoSaid'. A law counts once. -/
mutual
def uptoBulk {H : Type} : DataW H → Nat
  | .lit (.string bytes) => bytes.length + 1
  | .lit _ => 1
  | .nil => 1
  | .ptr d => uptoBulk d + 1
  | .slice elems spare => uptoBulkAll elems + uptoBulkAll spare + 1
  | .agg parts => uptoBulkAll parts + 1
  | .iface _ d => uptoBulk d + 1
  | .map entries => uptoBulkEntries entries + 1
  | .held _ => 1
def uptoBulkAll {H : Type} : List (DataW H) → Nat
  | [] => 0
  | d :: r => uptoBulk d + uptoBulkAll r
def uptoBulkEntries {H : Type} : List (Lit × DataW H) → Nat
  | [] => 0
  | x :: r => uptoBulkEntry x + uptoBulkEntries r
def uptoBulkEntry {H : Type} : Lit × DataW H → Nat
  | (.string bytes, d) => bytes.length + uptoBulk d + 1
  | (_, d) => uptoBulk d + 1
 end
def uptoSmall : (H : Type) → List (DataW H) → Bool := fun _ ds => decide (uptoBulkAll ds ≤ 1048576)
def OpenSpec.upto (s : _root_.Go.ChangeSpec) : _root_.Go.OpenSpec := { _root_.Go.OpenSpec.ofChange s with cond := some uptoSmall }

/-- 'mandrellaw02.NumParts', WHERE WHAT IT READS IS OF BULK AT MOST 1048576: true; the input reads as it did. -/
def numPartsUptoRow : OpenClaim := { program := "ytkpafgnchdohaaadoor", sum := "bbfeaa9be96804cb7849c70d55e3c7709972dac76bdd73033b111a28fdcbd2d6", func := "mandrel/mandrellaw02.NumParts", spec := "numParts", named := ["math/bits.deBruijn64tab"], apart := false, laid := [("math/bits.deBruijn64tab", laid_math_bits_deBruijn64tab)], narrowed := true }
def NumPartsUptoSaid : Prop := numPartsUptoRow.holds Tryd.pinned (OpenSpec.upto numPartsSpec)

/-- 'mandrellaw02.NumTurns', WHERE WHAT IT READS IS OF BULK AT MOST 1048576: true; the input reads as it did. -/
def numTurnsUptoRow : OpenClaim := { program := "ytkpafgnchdohaaadoor", sum := "bbfeaa9be96804cb7849c70d55e3c7709972dac76bdd73033b111a28fdcbd2d6", func := "mandrel/mandrellaw02.NumTurns", spec := "numTurns", named := ["math/bits.deBruijn64tab"], apart := false, laid := [("math/bits.deBruijn64tab", laid_math_bits_deBruijn64tab)], narrowed := true }
def NumTurnsUptoSaid : Prop := numTurnsUptoRow.holds Tryd.pinned (OpenSpec.upto numTurnsSpec)

/-- 'mandrellaw02.NumOrders', WHERE WHAT IT READS IS OF BULK AT MOST 1048576: true; the input reads as it did. -/
def numOrdersUptoRow : OpenClaim := { program := "ytkpafgnchdohaaadoor", sum := "bbfeaa9be96804cb7849c70d55e3c7709972dac76bdd73033b111a28fdcbd2d6", func := "mandrel/mandrellaw02.NumOrders", spec := "numOrders", named := ["math/bits.deBruijn64tab"], apart := false, laid := [("math/bits.deBruijn64tab", laid_math_bits_deBruijn64tab)], narrowed := true }
def NumOrdersUptoSaid : Prop := numOrdersUptoRow.holds Tryd.pinned (OpenSpec.upto numOrdersSpec)

/-- 'mandrellaw02.NumExtends', WHERE WHAT IT READS IS OF BULK AT MOST 1048576: true; the input reads as it did. -/
def numExtendsUptoRow : OpenClaim := { program := "ytkpafgnchdohaaadoor", sum := "bbfeaa9be96804cb7849c70d55e3c7709972dac76bdd73033b111a28fdcbd2d6", func := "mandrel/mandrellaw02.NumExtends", spec := "numExtends", named := ["math/bits.deBruijn64tab"], apart := false, laid := [("math/bits.deBruijn64tab", laid_math_bits_deBruijn64tab)], narrowed := true }
def NumExtendsUptoSaid : Prop := numExtendsUptoRow.holds Tryd.pinned (OpenSpec.upto numExtendsSpec)

/-- 'mandrellaw02.NumOnes', WHERE WHAT IT READS IS OF BULK AT MOST 1048576: true; the input reads as it did. -/
def numOnesUptoRow : OpenClaim := { program := "ytkpafgnchdohaaadoor", sum := "bbfeaa9be96804cb7849c70d55e3c7709972dac76bdd73033b111a28fdcbd2d6", func := "mandrel/mandrellaw02.NumOnes", spec := "numOnes", inPlace := ["internal/reflectlite.ValueOf", "(internal/reflectlite.Value).Type", "(internal/reflectlite.Value).IsNil", "internal/reflectlite.TypeOf", "(internal/reflectlite.Value).Elem", "(internal/reflectlite.Value).Set"], unfollowed := true, recurses := true, named := ["math/bits.deBruijn64tab", "errors.errorType"], apart := false, laid := [("math/bits.deBruijn64tab", laid_math_bits_deBruijn64tab), ("errors.errorType", laid_errors_errorType)], narrowed := true }
def NumOnesUptoSaid : Prop := numOnesUptoRow.holds Tryd.pinned (OpenSpec.upto numOnesSpec)

/-- 'mandrellaw02.NumTwos', WHERE WHAT IT READS IS OF BULK AT MOST 1048576: true; the input reads as it did. -/
def numTwosUptoRow : OpenClaim := { program := "ytkpafgnchdohaaadoor", sum := "bbfeaa9be96804cb7849c70d55e3c7709972dac76bdd73033b111a28fdcbd2d6", func := "mandrel/mandrellaw02.NumTwos", spec := "numTwos", inPlace := ["internal/reflectlite.ValueOf", "(internal/reflectlite.Value).Type", "(internal/reflectlite.Value).IsNil", "internal/reflectlite.TypeOf", "(internal/reflectlite.Value).Elem", "(internal/reflectlite.Value).Set"], unfollowed := true, recurses := true, named := ["errors.errorType", "math/bits.deBruijn64tab"], apart := false, laid := [("math/bits.deBruijn64tab", laid_math_bits_deBruijn64tab), ("errors.errorType", laid_errors_errorType)], narrowed := true }
def NumTwosUptoSaid : Prop := numTwosUptoRow.holds Tryd.pinned (OpenSpec.upto numTwosSpec)

/-- 'mandrellaw02.NumKinds', WHERE WHAT IT READS IS OF BULK AT MOST 1048576: true; the input reads as it did. -/
def numKindsUptoRow : OpenClaim := { program := "ytkpafgnchdohaaadoor", sum := "bbfeaa9be96804cb7849c70d55e3c7709972dac76bdd73033b111a28fdcbd2d6", func := "mandrel/mandrellaw02.NumKinds", spec := "numKinds", inPlace := ["internal/reflectlite.ValueOf", "(internal/reflectlite.Value).Type", "(internal/reflectlite.Value).IsNil", "internal/reflectlite.TypeOf", "(internal/reflectlite.Value).Elem", "(internal/reflectlite.Value).Set"], unfollowed := true, recurses := true, named := ["math/bits.deBruijn64tab", "errors.errorType"], apart := false, laid := [("math/bits.deBruijn64tab", laid_math_bits_deBruijn64tab), ("errors.errorType", laid_errors_errorType)], narrowed := true }
def NumKindsUptoSaid : Prop := numKindsUptoRow.holds Tryd.pinned (OpenSpec.upto numKindsSpec)

end Rows
end Go.Proofs.YtkpafgnchdohaaaDoor
