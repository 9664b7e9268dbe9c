-- Written by a program of this session: the machine side of the law FnExactNumberOfRoman, with contracts proved by hand for what the kit's print doesn't take. Lean checks it.
import Derived.Test.YtdjkmpkgkglidaaProg
import Derived.Below
import Derived.Deep.Draws
import Derived.Deep.AppendLies
import Derived.Maps.AppendAt
import Derived.OwnWalk
import Derived.Laws.BytesArg
import Derived.Laws.MakeOwn
import Derived.Laws.OwnMore
import Derived.Deep.OwnRows
import Derived.Tactics
import Derived.Lib.ConvBytes
import Derived.Laws.Slices
import Derived.WalkKit
import Derived.KernelRfl
import Derived.RowKit3
import Derived.Deep.LoopGhost
import Derived.Deep.QuietTactic
import Derived.BigQuiet
import Derived.WideLaws
import Derived.Deep.DeepCutAuto
import Derived.Deep.CutBlock
import Derived.Deep.RegionHeld3
import Derived.Laws.Rows
import Derived.Lib.AppendStr
import Derived.ArgAppend
import Derived.Laws.IdiomCopy
import Derived.OrdersHeld
import Derived.Laws.BitsLemmas
import Derived.RowKit
import Derived.WalkSpells
import Derived.Shelf.Abstract
import Derived.Laws.EntriesVeiled
import Derived.Lib.RowBridge
import Derived.Test.YtdjkmpkgkglidaaShelf
import Derived.Test.YtdjkmpkgkglidaaWWords
import Derived.Test.YtdjkmpkgkglidaaWLast
import Derived.Test.YtdjkmpkgkglidaaWTab
import Derived.Test.YtdjkmpkgkglidaaWFour
import Derived.Test.YtdjkmpkgkglidaaWQPut
import Derived.Test.YtdjkmpkgkglidaaWApart
import Derived.Test.YtdjkmpkgkglidaaWArr
import Derived.Test.YtdjkmpkgkglidaaWZeros
import Derived.Test.YtdjkmpkgkglidaaWFoot
import Derived.Test.YtdjkmpkgkglidaaWKept
import Derived.Test.YtdjkmpkgkglidaaWShare
import Derived.Test.YtdjkmpkgkglidaaWN
import Derived.Test.YtdjkmpkgkglidaaWFootNe
import Derived.Test.YtdjkmpkgkglidaaWAt
import Derived.Test.YtdjkmpkgkglidaaWEqStruct
import Derived.Test.YtdjkmpkgkglidaaWRepsOne
import Derived.Test.YtdjkmpkgkglidaaWInv
import Derived.Test.YtdjkmpkgkglidaaWInvWords
import Derived.Test.YtdjkmpkgkglidaaWGuard
import Derived.Test.YtdjkmpkgkglidaaWNEv
import Derived.Test.YtdjkmpkgkglidaaWMore
namespace Go.Proofs.Ytdjkmpkgkglidaa.XFnExactNumberOfRoman
open Go.RowKit Go.Proofs.YtdjkmpkgkglidaaW.PrintWords Go.Proofs.YtdjkmpkgkglidaaW.PrintLast Go.Proofs.YtdjkmpkgkglidaaW.PrintMore
attribute [local go_sem] max2_int min2_int max_two min_two max_three min_three max_four min_four   -- for this text's walks alone
set_option linter.unusedVariables false
set_option linter.unusedSimpArgs false



def errW : Option Int → Value
  | none => .nilIface
  | some c => .iface 0 (.int .i64 c)
theorem errW_none : errW none = .nilIface := rfl
theorem errW_some (c : Int) : errW (some c) = .iface 0 (.int .i64 c) := rfl

-- the values' own types

end Go.Proofs.Ytdjkmpkgkglidaa.XFnExactNumberOfRoman
