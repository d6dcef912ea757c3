/- Functions of the Go program as Lean functions, and the proofs that the Go code answers as they do. Written by a program of this session. -/
import Derived.Test.YtljmikfpknmnnaaProg
import Derived.Below
import Derived.Deep.Draws
import Derived.Deep.AppendLies
import Derived.Maps.AppendAt
import Derived.OwnWalk
import Derived.Laws.BytesArg
import Derived.Laws.MakeOwn
import Derived.Laws.OwnMore
import Derived.Deep.OwnRows
import Derived.Tactics
import Derived.Lib.ConvBytes
import Derived.Laws.Slices
import Derived.WalkKit
import Derived.KernelRfl
import Derived.RowKit3
import Derived.Deep.LoopGhost
import Derived.Deep.QuietTactic
import Derived.BigQuiet
import Derived.WideLaws
import Derived.Deep.DeepCutAuto
import Derived.Deep.CutBlock
import Derived.Deep.RegionHeld3
import Derived.Laws.Rows
import Derived.Lib.AppendStr
import Derived.ArgAppend
import Derived.Laws.IdiomCopy
import Derived.OrdersHeld
import Derived.Laws.BitsLemmas
import Derived.RowKit
import Derived.Lib.SliceRun
import Derived.Test.YtljmikfpknmnnaaLen
import Derived.Test.YtljmikfpknmnnaaWWords
import Derived.Test.YtljmikfpknmnnaaWLast
import Derived.Test.YtljmikfpknmnnaaWTab
import Derived.Test.YtljmikfpknmnnaaWFour
import Derived.Test.YtljmikfpknmnnaaWQPut
import Derived.Test.YtljmikfpknmnnaaWApart
import Derived.Test.YtljmikfpknmnnaaWArr
import Derived.Test.YtljmikfpknmnnaaWZeros
import Derived.Test.YtljmikfpknmnnaaWFoot
import Derived.Test.YtljmikfpknmnnaaWKept
import Derived.Test.YtljmikfpknmnnaaWShare
import Derived.Test.YtljmikfpknmnnaaWN
import Derived.Test.YtljmikfpknmnnaaWFootNe
import Derived.Test.YtljmikfpknmnnaaWAt
import Derived.Test.YtljmikfpknmnnaaWEqStruct
import Derived.Test.YtljmikfpknmnnaaWRepsOne
import Derived.Test.YtljmikfpknmnnaaWInv
import Derived.Test.YtljmikfpknmnnaaWInvWords
import Derived.Test.YtljmikfpknmnnaaWGuard
import Derived.Test.YtljmikfpknmnnaaWNEv
import Derived.Test.YtljmikfpknmnnaaWMore
namespace Go.Proofs.Ytljmikfpknmnnaa.XL
open Go.RowKit Go.Proofs.YtljmikfpknmnnaaW.PrintWords Go.Proofs.YtljmikfpknmnnaaW.PrintLast Go.Proofs.YtljmikfpknmnnaaW.PrintMore
attribute [local go_sem] max2_int min2_int max_two min_two max_three min_three max_four min_four   -- for this text's walks alone
set_option linter.unusedVariables false
set_option linter.unusedSimpArgs false



def errW : Option Int → Value
  | none => .nilIface
  | some c => .iface 45 (.int .i64 c)
theorem errW_none : errW none = .nilIface := rfl
theorem errW_some (c : Int) : errW (some c) = .iface 45 (.int .i64 c) := rfl

theorem info5 : (Try.prog.info? 5).map (fun i => (i.zero, i.size, i.bytes)) = some (some (.int .u8 0), 1, 1) := by kernel_rfl
-- the values' own types

end Go.Proofs.Ytljmikfpknmnnaa.XL
