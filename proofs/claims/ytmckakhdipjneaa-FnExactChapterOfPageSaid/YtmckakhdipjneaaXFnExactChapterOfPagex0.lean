-- Written by a program of this session: the machine side of the law FnExactChapterOfPage, with contracts proved by hand for what the kit's print doesn't take. Lean checks it.
import Derived.Test.YtmckakhdipjneaaProg
import Derived.Below
import Derived.Deep.Draws
import Derived.Deep.AppendLies
import Derived.Maps.AppendAt
import Derived.OwnWalk
import Derived.Laws.BytesArg
import Derived.Laws.MakeOwn
import Derived.Laws.OwnMore
import Derived.Deep.OwnRows
import Derived.Tactics
import Derived.Lib.ConvBytes
import Derived.Laws.Slices
import Derived.WalkKit
import Derived.KernelRfl
import Derived.RowKit3
import Derived.Deep.LoopGhost
import Derived.Deep.QuietTactic
import Derived.BigQuiet
import Derived.WideLaws
import Derived.Deep.DeepCutAuto
import Derived.Deep.CutBlock
import Derived.Deep.RegionHeld3
import Derived.Laws.Rows
import Derived.Lib.AppendStr
import Derived.ArgAppend
import Derived.Laws.IdiomCopy
import Derived.OrdersHeld
import Derived.Laws.BitsLemmas
import Derived.RowKit
import Derived.WalkSpells
import Derived.Test.YtmckakhdipjneaaWWords
import Derived.Test.YtmckakhdipjneaaWLast
import Derived.Test.YtmckakhdipjneaaWTab
import Derived.Test.YtmckakhdipjneaaWFour
import Derived.Test.YtmckakhdipjneaaWQPut
import Derived.Test.YtmckakhdipjneaaWApart
import Derived.Test.YtmckakhdipjneaaWArr
import Derived.Test.YtmckakhdipjneaaWZeros
import Derived.Test.YtmckakhdipjneaaWFoot
import Derived.Test.YtmckakhdipjneaaWKept
import Derived.Test.YtmckakhdipjneaaWShare
import Derived.Test.YtmckakhdipjneaaWN
import Derived.Test.YtmckakhdipjneaaWFootNe
import Derived.Test.YtmckakhdipjneaaWAt
import Derived.Test.YtmckakhdipjneaaWEqStruct
import Derived.Test.YtmckakhdipjneaaWRepsOne
import Derived.Test.YtmckakhdipjneaaWInv
import Derived.Test.YtmckakhdipjneaaWInvWords
import Derived.Test.YtmckakhdipjneaaWGuard
import Derived.Test.YtmckakhdipjneaaWNEv
import Derived.Test.YtmckakhdipjneaaWMore
namespace Go.Proofs.Ytmckakhdipjneaa.XFnExactChapterOfPage
open Go.RowKit Go.Proofs.YtmckakhdipjneaaW.PrintWords Go.Proofs.YtmckakhdipjneaaW.PrintLast Go.Proofs.YtmckakhdipjneaaW.PrintMore
attribute [local go_sem] max2_int min2_int max_two min_two max_three min_three max_four min_four   -- for this text's walks alone
set_option linter.unusedVariables false
set_option linter.unusedSimpArgs false



def errW : Option Int → Value
  | none => .nilIface
  | some c => .iface 0 (.int .i64 c)
theorem errW_none : errW none = .nilIface := rfl
theorem errW_some (c : Int) : errW (some c) = .iface 0 (.int .i64 c) := rfl

theorem info3 : (Try.prog.info? 3).map (fun i => (i.zero, i.size, i.bytes)) = some (some (.int .i64 0), 1, 8) := by kernel_rfl
-- the values' own types

end Go.Proofs.Ytmckakhdipjneaa.XFnExactChapterOfPage
