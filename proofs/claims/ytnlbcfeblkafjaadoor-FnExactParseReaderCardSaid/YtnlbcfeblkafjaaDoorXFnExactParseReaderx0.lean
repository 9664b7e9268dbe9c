-- Written by a program of this session: the machine side of the law FnExactParseReader, with contracts proved by hand for what the kit's print doesn't take. Lean checks it.
import Derived.Test.YtnlbcfeblkafjaaDoorProg
import Derived.Below
import Derived.Deep.Draws
import Derived.Deep.AppendLies
import Derived.Maps.AppendAt
import Derived.OwnWalk
import Derived.Laws.BytesArg
import Derived.Laws.MakeOwn
import Derived.Laws.OwnMore
import Derived.Deep.OwnRows
import Derived.Tactics
import Derived.Lib.ConvBytes
import Derived.Laws.Slices
import Derived.WalkKit
import Derived.KernelRfl
import Derived.RowKit3
import Derived.Deep.LoopGhost
import Derived.Deep.QuietTactic
import Derived.BigQuiet
import Derived.WideLaws
import Derived.Deep.DeepCutAuto
import Derived.Deep.CutBlock
import Derived.Deep.RegionHeld3
import Derived.Laws.Rows
import Derived.Lib.AppendStr
import Derived.ArgAppend
import Derived.Laws.IdiomCopy
import Derived.OrdersHeld
import Derived.Laws.BitsLemmas
import Derived.RowKit
import Derived.WalkSpells
import Derived.Shelf.Abstract
import Derived.Laws.EntriesVeiled
import Derived.Lib.RowBridge
import Derived.Test.YtnlbcfeblkafjaaDoorShelf
import Derived.Test.YtnlbcfeblkafjaaDoorWWords
import Derived.Test.YtnlbcfeblkafjaaDoorWLast
import Derived.Test.YtnlbcfeblkafjaaDoorWTab
import Derived.Test.YtnlbcfeblkafjaaDoorWFour
import Derived.Test.YtnlbcfeblkafjaaDoorWQPut
import Derived.Test.YtnlbcfeblkafjaaDoorWApart
import Derived.Test.YtnlbcfeblkafjaaDoorWArr
import Derived.Test.YtnlbcfeblkafjaaDoorWZeros
import Derived.Test.YtnlbcfeblkafjaaDoorWFoot
import Derived.Test.YtnlbcfeblkafjaaDoorWKept
import Derived.Test.YtnlbcfeblkafjaaDoorWShare
import Derived.Test.YtnlbcfeblkafjaaDoorWN
import Derived.Test.YtnlbcfeblkafjaaDoorWFootNe
import Derived.Test.YtnlbcfeblkafjaaDoorWAt
import Derived.Test.YtnlbcfeblkafjaaDoorWEqStruct
import Derived.Test.YtnlbcfeblkafjaaDoorWRepsOne
import Derived.Test.YtnlbcfeblkafjaaDoorWInv
import Derived.Test.YtnlbcfeblkafjaaDoorWInvWords
import Derived.Test.YtnlbcfeblkafjaaDoorWGuard
import Derived.Test.YtnlbcfeblkafjaaDoorWNEv
import Derived.Test.YtnlbcfeblkafjaaDoorWMore
namespace Go.Proofs.YtnlbcfeblkafjaaDoor.XFnExactParseReader
open Go.RowKit Go.Proofs.YtnlbcfeblkafjaaDoorW.PrintWords Go.Proofs.YtnlbcfeblkafjaaDoorW.PrintLast Go.Proofs.YtnlbcfeblkafjaaDoorW.PrintMore
attribute [local go_sem] max2_int min2_int max_two min_two max_three min_three max_four min_four   -- for this text's walks alone
set_option linter.unusedVariables false
set_option linter.unusedSimpArgs false



def errW : Option Int → Value
  | none => .nilIface
  | some c => .iface 56 (.pointer (some ⟨c.toNat, 0, none⟩))
theorem errW_none : errW none = .nilIface := rfl
theorem errW_some (c : Int) : errW (some c) = .iface 56 (.pointer (some ⟨c.toNat, 0, none⟩)) := rfl

theorem info5 : (Tryd.prog.info? 5).map (fun i => (i.zero, i.size, i.bytes)) = some (some (.int .u8 0), 1, 1) := by kernel_rfl
theorem info9 : (Tryd.prog.info? 9).map (fun i => (i.zero, i.size, i.bytes)) = some (some (.string ⟨#[]⟩), 1, 16) := by kernel_rfl
-- the values' own types

end Go.Proofs.YtnlbcfeblkafjaaDoor.XFnExactParseReader
