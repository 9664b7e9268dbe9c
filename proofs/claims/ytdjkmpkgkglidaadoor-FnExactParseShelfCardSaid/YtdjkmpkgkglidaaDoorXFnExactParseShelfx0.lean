-- Written by a program of this session: the machine side of the law FnExactParseShelf, with contracts proved by hand for what the kit's print doesn't take. Lean checks it.
import Derived.Test.YtdjkmpkgkglidaaDoorProg
import Derived.Below
import Derived.Deep.Draws
import Derived.Deep.AppendLies
import Derived.Maps.AppendAt
import Derived.OwnWalk
import Derived.Laws.BytesArg
import Derived.Laws.MakeOwn
import Derived.Laws.OwnMore
import Derived.Deep.OwnRows
import Derived.Tactics
import Derived.Lib.ConvBytes
import Derived.Laws.Slices
import Derived.WalkKit
import Derived.KernelRfl
import Derived.RowKit3
import Derived.Deep.LoopGhost
import Derived.Deep.QuietTactic
import Derived.BigQuiet
import Derived.WideLaws
import Derived.Deep.DeepCutAuto
import Derived.Deep.CutBlock
import Derived.Deep.RegionHeld3
import Derived.Laws.Rows
import Derived.Lib.AppendStr
import Derived.ArgAppend
import Derived.Laws.IdiomCopy
import Derived.OrdersHeld
import Derived.Laws.BitsLemmas
import Derived.RowKit
import Derived.WalkSpells
import Derived.Shelf.Abstract
import Derived.Laws.EntriesVeiled
import Derived.Lib.RowBridge
import Derived.Test.YtdjkmpkgkglidaaDoorShelf
import Derived.Test.YtdjkmpkgkglidaaDoorWWords
import Derived.Test.YtdjkmpkgkglidaaDoorWLast
import Derived.Test.YtdjkmpkgkglidaaDoorWTab
import Derived.Test.YtdjkmpkgkglidaaDoorWFour
import Derived.Test.YtdjkmpkgkglidaaDoorWQPut
import Derived.Test.YtdjkmpkgkglidaaDoorWApart
import Derived.Test.YtdjkmpkgkglidaaDoorWArr
import Derived.Test.YtdjkmpkgkglidaaDoorWZeros
import Derived.Test.YtdjkmpkgkglidaaDoorWFoot
import Derived.Test.YtdjkmpkgkglidaaDoorWKept
import Derived.Test.YtdjkmpkgkglidaaDoorWShare
import Derived.Test.YtdjkmpkgkglidaaDoorWN
import Derived.Test.YtdjkmpkgkglidaaDoorWFootNe
import Derived.Test.YtdjkmpkgkglidaaDoorWAt
import Derived.Test.YtdjkmpkgkglidaaDoorWEqStruct
import Derived.Test.YtdjkmpkgkglidaaDoorWRepsOne
import Derived.Test.YtdjkmpkgkglidaaDoorWInv
import Derived.Test.YtdjkmpkgkglidaaDoorWInvWords
import Derived.Test.YtdjkmpkgkglidaaDoorWGuard
import Derived.Test.YtdjkmpkgkglidaaDoorWNEv
import Derived.Test.YtdjkmpkgkglidaaDoorWMore
namespace Go.Proofs.YtdjkmpkgkglidaaDoor.XFnExactParseShelf
open Go.RowKit Go.Proofs.YtdjkmpkgkglidaaDoorW.PrintWords Go.Proofs.YtdjkmpkgkglidaaDoorW.PrintLast Go.Proofs.YtdjkmpkgkglidaaDoorW.PrintMore
attribute [local go_sem] max2_int min2_int max_two min_two max_three min_three max_four min_four   -- for this text's walks alone
set_option linter.unusedVariables false
set_option linter.unusedSimpArgs false



def errW : Option Int → Value
  | none => .nilIface
  | some c => .iface 65 (.pointer (some ⟨c.toNat, 0, none⟩))
theorem errW_none : errW none = .nilIface := rfl
theorem errW_some (c : Int) : errW (some c) = .iface 65 (.pointer (some ⟨c.toNat, 0, none⟩)) := rfl

theorem info3 : (Tryd.prog.info? 3).map (fun i => (i.zero, i.size, i.bytes)) = some (some (.int .i64 0), 1, 8) := by kernel_rfl
theorem info9 : (Tryd.prog.info? 9).map (fun i => (i.zero, i.size, i.bytes)) = some (some (.string ⟨#[]⟩), 1, 16) := by kernel_rfl
-- the values' own types

end Go.Proofs.YtdjkmpkgkglidaaDoor.XFnExactParseShelf
