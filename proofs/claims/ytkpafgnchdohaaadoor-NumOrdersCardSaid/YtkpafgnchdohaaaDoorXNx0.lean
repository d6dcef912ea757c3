/- Functions of the Go program as Lean functions, and the proofs that the Go code answers as they do. Written by a program of this session. -/
import Derived.Test.YtkpafgnchdohaaaDoorProg
import Derived.Below
import Derived.Deep.Draws
import Derived.Deep.AppendLies
import Derived.Maps.AppendAt
import Derived.OwnWalk
import Derived.Laws.BytesArg
import Derived.Laws.MakeOwn
import Derived.Laws.OwnMore
import Derived.Deep.OwnRows
import Derived.Tactics
import Derived.Lib.ConvBytes
import Derived.Laws.Slices
import Derived.WalkKit
import Derived.KernelRfl
import Derived.RowKit3
import Derived.Deep.LoopGhost
import Derived.Deep.QuietTactic
import Derived.BigQuiet
import Derived.WideLaws
import Derived.Deep.DeepCutAuto
import Derived.Deep.CutBlock
import Derived.Deep.RegionHeld3
import Derived.Laws.Rows
import Derived.Lib.AppendStr
import Derived.ArgAppend
import Derived.Laws.IdiomCopy
import Derived.OrdersHeld
import Derived.Laws.BitsLemmas
import Derived.RowKit
import Derived.Test.YtkpafgnchdohaaaDoorLen
import Derived.Test.YtkpafgnchdohaaaDoorAs
import Derived.Test.YtkpafgnchdohaaaDoorTz
import Derived.Test.YtkpafgnchdohaaaDoorWWords
import Derived.Test.YtkpafgnchdohaaaDoorWLast
import Derived.Test.YtkpafgnchdohaaaDoorWTab
import Derived.Test.YtkpafgnchdohaaaDoorWFour
import Derived.Test.YtkpafgnchdohaaaDoorWQPut
import Derived.Test.YtkpafgnchdohaaaDoorWApart
import Derived.Test.YtkpafgnchdohaaaDoorWArr
import Derived.Test.YtkpafgnchdohaaaDoorWZeros
import Derived.Test.YtkpafgnchdohaaaDoorWFoot
import Derived.Test.YtkpafgnchdohaaaDoorWKept
import Derived.Test.YtkpafgnchdohaaaDoorWShare
import Derived.Test.YtkpafgnchdohaaaDoorWN
import Derived.Test.YtkpafgnchdohaaaDoorWFootNe
import Derived.Test.YtkpafgnchdohaaaDoorWAt
import Derived.Test.YtkpafgnchdohaaaDoorWEqStruct
import Derived.Test.YtkpafgnchdohaaaDoorWRepsOne
import Derived.Test.YtkpafgnchdohaaaDoorWInv
import Derived.Test.YtkpafgnchdohaaaDoorWInvWords
import Derived.Test.YtkpafgnchdohaaaDoorWGuard
import Derived.Test.YtkpafgnchdohaaaDoorWNEv
import Derived.Test.YtkpafgnchdohaaaDoorWMore
namespace Go.Proofs.YtkpafgnchdohaaaDoor.XN
open Go.RowKit Go.Proofs.YtkpafgnchdohaaaDoorW.PrintWords Go.Proofs.YtkpafgnchdohaaaDoorW.PrintLast Go.Proofs.YtkpafgnchdohaaaDoorW.PrintMore
attribute [local go_sem] max2_int min2_int max_two min_two max_three min_three max_four min_four   -- for this text's walks alone
set_option linter.unusedVariables false
set_option linter.unusedSimpArgs false



def errW : Option Int → Value
  | none => .nilIface
  | some c => .iface 48 (.int .i64 c)
theorem errW_none : errW none = .nilIface := rfl
theorem errW_some (c : Int) : errW (some c) = .iface 48 (.int .i64 c) := rfl

theorem info4 : (Tryd.prog.info? 4).map (fun i => (i.zero, i.size, i.bytes)) = some (some (.bool false), 1, 1) := by kernel_rfl
theorem info9 : (Tryd.prog.info? 9).map (fun i => (i.zero, i.size, i.bytes)) = some (some (.string ⟨#[]⟩), 1, 16) := by kernel_rfl
-- the values' own types

end Go.Proofs.YtkpafgnchdohaaaDoor.XN
