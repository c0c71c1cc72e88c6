/- Each Go function that the law reaches has the same answers as the Lean function of its name: contracts, written by a program of this session. -/
import Derived.Test.YtlkakpibppikiaaProg
import Derived.Below
import Derived.Deep.Draws
import Derived.Deep.AppendLies
import Derived.Maps.AppendAt
import Derived.OwnWalk
import Derived.Laws.BytesArg
import Derived.Laws.MakeOwn
import Derived.Laws.OwnMore
import Derived.Deep.OwnRows
import Derived.Tactics
import Derived.Lib.ConvBytes
import Derived.Laws.Slices
import Derived.WalkKit
import Derived.KernelRfl
import Derived.RowKit3
import Derived.Deep.LoopGhost
import Derived.Deep.QuietTactic
import Derived.BigQuiet
import Derived.WideLaws
import Derived.Deep.DeepCutAuto
import Derived.Deep.CutBlock
import Derived.Deep.RegionHeld3
import Derived.Laws.Rows
import Derived.Lib.AppendStr
import Derived.ArgAppend
import Derived.Laws.IdiomCopy
import Derived.OrdersHeld
import Derived.Laws.BitsLemmas
import Derived.RowKit
import Derived.Test.YtlkakpibppikiaaWWords
import Derived.Test.YtlkakpibppikiaaWLast
import Derived.Test.YtlkakpibppikiaaWTab
import Derived.Test.YtlkakpibppikiaaWFour
import Derived.Test.YtlkakpibppikiaaWQPut
import Derived.Test.YtlkakpibppikiaaWApart
import Derived.Test.YtlkakpibppikiaaWArr
import Derived.Test.YtlkakpibppikiaaWZeros
import Derived.Test.YtlkakpibppikiaaWFoot
import Derived.Test.YtlkakpibppikiaaWKept
import Derived.Test.YtlkakpibppikiaaWShare
import Derived.Test.YtlkakpibppikiaaWN
import Derived.Test.YtlkakpibppikiaaWFootNe
import Derived.Test.YtlkakpibppikiaaWAt
import Derived.Test.YtlkakpibppikiaaWEqStruct
import Derived.Test.YtlkakpibppikiaaWRepsOne
import Derived.Test.YtlkakpibppikiaaWInv
import Derived.Test.YtlkakpibppikiaaWInvWords
import Derived.Test.YtlkakpibppikiaaWGuard
import Derived.Test.YtlkakpibppikiaaWNEv
import Derived.Test.YtlkakpibppikiaaWMore
namespace Go.Proofs.Ytlkakpibppikiaa.PPi
open Go.RowKit Go.Proofs.YtlkakpibppikiaaW.PrintWords Go.Proofs.YtlkakpibppikiaaW.PrintLast Go.Proofs.YtlkakpibppikiaaW.PrintMore
attribute [local go_sem] max2_int min2_int max_two min_two max_three min_three max_four min_four   -- for this text's walks alone
set_option linter.unusedVariables false
set_option linter.unusedSimpArgs false
noncomputable section



def errW : Option Int → Value
  | none => .nilIface
  | some c => .iface 0 (.int .i64 c)
theorem errW_none : errW none = .nilIface := rfl
theorem errW_some (c : Int) : errW (some c) = .iface 0 (.int .i64 c) := rfl

-- the values' own types

end
end Go.Proofs.Ytlkakpibppikiaa.PPi
