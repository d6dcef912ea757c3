/- Functions of the Go program as Lean functions, and the proofs that the Go code answers as they do. Written by a program of this session. -/
import Derived.Test.YtljmikfpknmnnaaDoorProg
import Derived.Below
import Derived.Deep.Draws
import Derived.Deep.AppendLies
import Derived.Maps.AppendAt
import Derived.OwnWalk
import Derived.Laws.BytesArg
import Derived.Laws.MakeOwn
import Derived.Laws.OwnMore
import Derived.Deep.OwnRows
import Derived.Tactics
import Derived.Lib.ConvBytes
import Derived.Laws.Slices
import Derived.WalkKit
import Derived.KernelRfl
import Derived.RowKit3
import Derived.Deep.LoopGhost
import Derived.Deep.QuietTactic
import Derived.BigQuiet
import Derived.WideLaws
import Derived.Deep.DeepCutAuto
import Derived.Deep.CutBlock
import Derived.Deep.RegionHeld3
import Derived.Laws.Rows
import Derived.Lib.AppendStr
import Derived.ArgAppend
import Derived.Laws.IdiomCopy
import Derived.OrdersHeld
import Derived.Laws.BitsLemmas
import Derived.RowKit
import Derived.Lib.SliceRun
import Derived.Test.YtljmikfpknmnnaaDoorLen
import Derived.Test.YtljmikfpknmnnaaDoorAs
import Derived.Test.YtljmikfpknmnnaaDoorWWords
import Derived.Test.YtljmikfpknmnnaaDoorWLast
import Derived.Test.YtljmikfpknmnnaaDoorWTab
import Derived.Test.YtljmikfpknmnnaaDoorWFour
import Derived.Test.YtljmikfpknmnnaaDoorWQPut
import Derived.Test.YtljmikfpknmnnaaDoorWApart
import Derived.Test.YtljmikfpknmnnaaDoorWArr
import Derived.Test.YtljmikfpknmnnaaDoorWZeros
import Derived.Test.YtljmikfpknmnnaaDoorWFoot
import Derived.Test.YtljmikfpknmnnaaDoorWKept
import Derived.Test.YtljmikfpknmnnaaDoorWShare
import Derived.Test.YtljmikfpknmnnaaDoorWN
import Derived.Test.YtljmikfpknmnnaaDoorWFootNe
import Derived.Test.YtljmikfpknmnnaaDoorWAt
import Derived.Test.YtljmikfpknmnnaaDoorWEqStruct
import Derived.Test.YtljmikfpknmnnaaDoorWRepsOne
import Derived.Test.YtljmikfpknmnnaaDoorWInv
import Derived.Test.YtljmikfpknmnnaaDoorWInvWords
import Derived.Test.YtljmikfpknmnnaaDoorWGuard
import Derived.Test.YtljmikfpknmnnaaDoorWNEv
import Derived.Test.YtljmikfpknmnnaaDoorWMore
namespace Go.Proofs.YtljmikfpknmnnaaDoor.XS
open Go.RowKit Go.Proofs.YtljmikfpknmnnaaDoorW.PrintWords Go.Proofs.YtljmikfpknmnnaaDoorW.PrintLast Go.Proofs.YtljmikfpknmnnaaDoorW.PrintMore
attribute [local go_sem] max2_int min2_int max_two min_two max_three min_three max_four min_four   -- for this text's walks alone
set_option linter.unusedVariables false
set_option linter.unusedSimpArgs false



def errW : Option Int → Value
  | none => .nilIface
  | some c => .iface 66 (.int .i64 c)
theorem errW_none : errW none = .nilIface := rfl
theorem errW_some (c : Int) : errW (some c) = .iface 66 (.int .i64 c) := rfl

theorem info5 : (Tryd.prog.info? 5).map (fun i => (i.zero, i.size, i.bytes)) = some (some (.int .u8 0), 1, 1) := by kernel_rfl
-- the values' own types

end Go.Proofs.YtljmikfpknmnnaaDoor.XS
