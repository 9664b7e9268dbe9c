-- Written by a program of this session: the machine side of the law FnExactPagesEaten, with contracts proved by hand for what the kit's print doesn't take. Lean checks it.
import Derived.Test.YtiedpggapckieaaProg
import Derived.Below
import Derived.Deep.Draws
import Derived.Deep.AppendLies
import Derived.Maps.AppendAt
import Derived.OwnWalk
import Derived.Laws.BytesArg
import Derived.Laws.MakeOwn
import Derived.Laws.OwnMore
import Derived.Deep.OwnRows
import Derived.Tactics
import Derived.Lib.ConvBytes
import Derived.Laws.Slices
import Derived.WalkKit
import Derived.KernelRfl
import Derived.RowKit3
import Derived.Deep.LoopGhost
import Derived.Deep.QuietTactic
import Derived.BigQuiet
import Derived.WideLaws
import Derived.Deep.DeepCutAuto
import Derived.Deep.CutBlock
import Derived.Deep.RegionHeld3
import Derived.Laws.Rows
import Derived.Lib.AppendStr
import Derived.ArgAppend
import Derived.Laws.IdiomCopy
import Derived.OrdersHeld
import Derived.Laws.BitsLemmas
import Derived.RowKit
import Derived.WalkSpells
import Derived.Shelf.Abstract
import Derived.Test.YtiedpggapckieaaWWords
import Derived.Test.YtiedpggapckieaaWLast
import Derived.Test.YtiedpggapckieaaWTab
import Derived.Test.YtiedpggapckieaaWFour
import Derived.Test.YtiedpggapckieaaWQPut
import Derived.Test.YtiedpggapckieaaWApart
import Derived.Test.YtiedpggapckieaaWArr
import Derived.Test.YtiedpggapckieaaWZeros
import Derived.Test.YtiedpggapckieaaWFoot
import Derived.Test.YtiedpggapckieaaWKept
import Derived.Test.YtiedpggapckieaaWShare
import Derived.Test.YtiedpggapckieaaWN
import Derived.Test.YtiedpggapckieaaWFootNe
import Derived.Test.YtiedpggapckieaaWAt
import Derived.Test.YtiedpggapckieaaWEqStruct
import Derived.Test.YtiedpggapckieaaWRepsOne
import Derived.Test.YtiedpggapckieaaWInv
import Derived.Test.YtiedpggapckieaaWInvWords
import Derived.Test.YtiedpggapckieaaWGuard
import Derived.Test.YtiedpggapckieaaWNEv
import Derived.Test.YtiedpggapckieaaWMore
namespace Go.Proofs.Ytiedpggapckieaa.XFnExactPagesEaten
open Go.RowKit Go.Proofs.YtiedpggapckieaaW.PrintWords Go.Proofs.YtiedpggapckieaaW.PrintLast Go.Proofs.YtiedpggapckieaaW.PrintMore
attribute [local go_sem] max2_int min2_int max_two min_two max_three min_three max_four min_four   -- for this text's walks alone
set_option linter.unusedVariables false
set_option linter.unusedSimpArgs false



def errW : Option Int → Value
  | none => .nilIface
  | some c => .iface 0 (.int .i64 c)
theorem errW_none : errW none = .nilIface := rfl
theorem errW_some (c : Int) : errW (some c) = .iface 0 (.int .i64 c) := rfl

theorem info3 : (Try.prog.info? 3).map (fun i => (i.zero, i.size, i.bytes)) = some (some (.int .i64 0), 1, 8) := by kernel_rfl
-- the values' own types

end Go.Proofs.Ytiedpggapckieaa.XFnExactPagesEaten
