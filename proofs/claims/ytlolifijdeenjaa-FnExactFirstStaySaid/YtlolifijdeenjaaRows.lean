/-
  No cell of these rows narrows 'for every input' (looked for: loops, veiled, ifaces, maps, wideKeys, modest, calm, conditions, laid).
  DERIVED. THE GIVEN ROWS OF THIS SEAT. 7 by the template 'for every input the law returns true; each argument reads behind the call as it read before'; 0 by the template 'total and deterministic' (their statements: YtlolifijdeenjaaTotals.lean).
  GIVEN WITH THE SEED: the statements are not yours to turn. If you find one false, say at which input.
  Laid BY PROGRAM, IN A SANDBOX (cutbox-rows.mjs): the forced cells as the released guide's own fill.sh prints them over the translation 4475f01088468862… (all of the seat's roots in one cut). By AI agents, Wed Nov 11 2026. No macro, syntax, notation, axiom, sorry.
-/
import Derived.Test.YtlolifijdeenjaaChecked
import GoSem.Claim
import GoSem.ClaimJoined
import GoSem.ClaimMapViews
import Derived.JoinedTies
import Derived.KernelRfl
namespace Go.Proofs.Ytlolifijdeenjaa
/- THE CELL 'sum', in the pinned program and in every row, IS THE sha256 OF THE DUMP (.gsa) THAT YtlolifijdeenjaaProg.lean LOADS. Nothing in Lean hashes anything: it is a label: what it is worth is what the hold of that sum in a sandbox is worth. -/
noncomputable def Try.pinned : Pinned := { name := "ytlolifijdeenjaa", sum := "4475f01088468862e30eb69a4d8858357bad39e542ee7470d76f529ab7df3128", checked := Try.checked }
namespace Rows
def none {H : Type} : Left H := { results := [], args := [] }

/-- 'laws.FnExactIsStanding': WHATEVER THE INPUT: true; the input reads as it did. -/
def fnExactIsStandingSpec : ChangeSpec := { name := "fnExactIsStanding", fn := fun _ => fun
  | [d] => { results := [.lit (.bool true)], args := [d] }
  | _ => none }
def fnExactIsStandingRow : OpenClaim := { program := "ytlolifijdeenjaa", sum := "4475f01088468862e30eb69a4d8858357bad39e542ee7470d76f529ab7df3128", func := "loop.example/g01394/laws.FnExactIsStanding", spec := "fnExactIsStanding", apart := false }
def FnExactIsStandingSaid : Prop := fnExactIsStandingRow.holds Try.pinned (OpenSpec.ofChange fnExactIsStandingSpec)

/-- ITS FALSE NEIGHBOUR: 'it returns false'. Refute it at one input. -/
def fnExactIsStandingWrong : ChangeSpec := { name := "fnExactIsStanding", fn := fun _ => fun
  | [d] => { results := [.lit (.bool false)], args := [d] }
  | _ => none }
def FnExactIsStandingWrongFalsely : Prop := fnExactIsStandingRow.holds Try.pinned (OpenSpec.ofChange fnExactIsStandingWrong)

/-- 'laws.FnExactFewestNeighbours': WHATEVER THE INPUT: true; the input reads as it did. -/
def fnExactFewestNeighboursSpec : ChangeSpec := { name := "fnExactFewestNeighbours", fn := fun _ => fun
  | [d] => { results := [.lit (.bool true)], args := [d] }
  | _ => none }
def fnExactFewestNeighboursRow : OpenClaim := { program := "ytlolifijdeenjaa", sum := "4475f01088468862e30eb69a4d8858357bad39e542ee7470d76f529ab7df3128", func := "loop.example/g01394/laws.FnExactFewestNeighbours", spec := "fnExactFewestNeighbours", apart := false }
def FnExactFewestNeighboursSaid : Prop := fnExactFewestNeighboursRow.holds Try.pinned (OpenSpec.ofChange fnExactFewestNeighboursSpec)

/-- ITS FALSE NEIGHBOUR: 'it returns false'. Refute it at one input. -/
def fnExactFewestNeighboursWrong : ChangeSpec := { name := "fnExactFewestNeighbours", fn := fun _ => fun
  | [d] => { results := [.lit (.bool false)], args := [d] }
  | _ => none }
def FnExactFewestNeighboursWrongFalsely : Prop := fnExactFewestNeighboursRow.holds Try.pinned (OpenSpec.ofChange fnExactFewestNeighboursWrong)

/-- 'laws.FnExactFewestSwaps': WHATEVER THE INPUT: true; the input reads as it did. -/
def fnExactFewestSwapsSpec : ChangeSpec := { name := "fnExactFewestSwaps", fn := fun _ => fun
  | [d] => { results := [.lit (.bool true)], args := [d] }
  | _ => none }
def fnExactFewestSwapsRow : OpenClaim := { program := "ytlolifijdeenjaa", sum := "4475f01088468862e30eb69a4d8858357bad39e542ee7470d76f529ab7df3128", func := "loop.example/g01394/laws.FnExactFewestSwaps", spec := "fnExactFewestSwaps", apart := false }
def FnExactFewestSwapsSaid : Prop := fnExactFewestSwapsRow.holds Try.pinned (OpenSpec.ofChange fnExactFewestSwapsSpec)

/-- ITS FALSE NEIGHBOUR: 'it returns false'. Refute it at one input. -/
def fnExactFewestSwapsWrong : ChangeSpec := { name := "fnExactFewestSwaps", fn := fun _ => fun
  | [d] => { results := [.lit (.bool false)], args := [d] }
  | _ => none }
def FnExactFewestSwapsWrongFalsely : Prop := fnExactFewestSwapsRow.holds Try.pinned (OpenSpec.ofChange fnExactFewestSwapsWrong)

/-- 'laws.FnExactFewestMoves': WHATEVER THE INPUT: true; the input reads as it did. -/
def fnExactFewestMovesSpec : ChangeSpec := { name := "fnExactFewestMoves", fn := fun _ => fun
  | [d] => { results := [.lit (.bool true)], args := [d] }
  | _ => none }
def fnExactFewestMovesRow : OpenClaim := { program := "ytlolifijdeenjaa", sum := "4475f01088468862e30eb69a4d8858357bad39e542ee7470d76f529ab7df3128", func := "loop.example/g01394/laws.FnExactFewestMoves", spec := "fnExactFewestMoves", unfollowed := true, recurses := true, apart := false }
def FnExactFewestMovesSaid : Prop := fnExactFewestMovesRow.holds Try.pinned (OpenSpec.ofChange fnExactFewestMovesSpec)

/-- ITS FALSE NEIGHBOUR: 'it returns false'. Refute it at one input. -/
def fnExactFewestMovesWrong : ChangeSpec := { name := "fnExactFewestMoves", fn := fun _ => fun
  | [d] => { results := [.lit (.bool false)], args := [d] }
  | _ => none }
def FnExactFewestMovesWrongFalsely : Prop := fnExactFewestMovesRow.holds Try.pinned (OpenSpec.ofChange fnExactFewestMovesWrong)

/-- 'laws.FnExactFirstStay': WHATEVER THE INPUT: true; the input reads as it did. -/
def fnExactFirstStaySpec : ChangeSpec := { name := "fnExactFirstStay", fn := fun _ => fun
  | [d] => { results := [.lit (.bool true)], args := [d] }
  | _ => none }
def fnExactFirstStayRow : OpenClaim := { program := "ytlolifijdeenjaa", sum := "4475f01088468862e30eb69a4d8858357bad39e542ee7470d76f529ab7df3128", func := "loop.example/g01394/laws.FnExactFirstStay", spec := "fnExactFirstStay", unfollowed := true, recurses := true, apart := false }
def FnExactFirstStaySaid : Prop := fnExactFirstStayRow.holds Try.pinned (OpenSpec.ofChange fnExactFirstStaySpec)

/-- ITS FALSE NEIGHBOUR: 'it returns false'. Refute it at one input. -/
def fnExactFirstStayWrong : ChangeSpec := { name := "fnExactFirstStay", fn := fun _ => fun
  | [d] => { results := [.lit (.bool false)], args := [d] }
  | _ => none }
def FnExactFirstStayWrongFalsely : Prop := fnExactFirstStayRow.holds Try.pinned (OpenSpec.ofChange fnExactFirstStayWrong)

/-- 'laws.FnExactMoveVolume': WHATEVER THE INPUT: true; the input reads as it did. -/
def fnExactMoveVolumeSpec : ChangeSpec := { name := "fnExactMoveVolume", fn := fun _ => fun
  | [d1, d2, d3] => { results := [.lit (.bool true)], args := [d1, d2, d3] }
  | _ => none }
def fnExactMoveVolumeRow : OpenClaim := { program := "ytlolifijdeenjaa", sum := "4475f01088468862e30eb69a4d8858357bad39e542ee7470d76f529ab7df3128", func := "loop.example/g01394/laws.FnExactMoveVolume", spec := "fnExactMoveVolume", inPlace := ["slices.overlaps[int]"], apart := false }
def FnExactMoveVolumeSaid : Prop := fnExactMoveVolumeRow.holds Try.pinned (OpenSpec.ofChange fnExactMoveVolumeSpec)

/-- ITS FALSE NEIGHBOUR: 'it returns false'. Refute it at one input. -/
def fnExactMoveVolumeWrong : ChangeSpec := { name := "fnExactMoveVolume", fn := fun _ => fun
  | [d1, d2, d3] => { results := [.lit (.bool false)], args := [d1, d2, d3] }
  | _ => none }
def FnExactMoveVolumeWrongFalsely : Prop := fnExactMoveVolumeRow.holds Try.pinned (OpenSpec.ofChange fnExactMoveVolumeWrong)

/-- 'laws.FnExactMoveChapter': WHATEVER THE INPUT: true; the input reads as it did. -/
def fnExactMoveChapterSpec : ChangeSpec := { name := "fnExactMoveChapter", fn := fun _ => fun
  | [d1, d2, d3] => { results := [.lit (.bool true)], args := [d1, d2, d3] }
  | _ => none }
def fnExactMoveChapterRow : OpenClaim := { program := "ytlolifijdeenjaa", sum := "4475f01088468862e30eb69a4d8858357bad39e542ee7470d76f529ab7df3128", func := "loop.example/g01394/laws.FnExactMoveChapter", spec := "fnExactMoveChapter", inPlace := ["slices.overlaps[int]"], apart := false }
def FnExactMoveChapterSaid : Prop := fnExactMoveChapterRow.holds Try.pinned (OpenSpec.ofChange fnExactMoveChapterSpec)

/-- ITS FALSE NEIGHBOUR: 'it returns false'. Refute it at one input. -/
def fnExactMoveChapterWrong : ChangeSpec := { name := "fnExactMoveChapter", fn := fun _ => fun
  | [d1, d2, d3] => { results := [.lit (.bool false)], args := [d1, d2, d3] }
  | _ => none }
def FnExactMoveChapterWrongFalsely : Prop := fnExactMoveChapterRow.holds Try.pinned (OpenSpec.ofChange fnExactMoveChapterWrong)

/- THE SECOND FORM. 'bulk': how many values and letters a reading holds, each counted each time it is reached (what is shared counts as often as it is met; a slice's spare places count too). A statement '..UptoSaid' is the law's where the arguments, and the package variables that the reading takes, are together of bulk at most 1048576: NARROWER than '..Said'. Prove '..Said' where nothing that the law and all that it calls make is longer than what came in: it says more and counts as full. Else prove '..UptoSaid'. A law counts once. -/
mutual
def uptoBulk {H : Type} : DataW H → Nat
  | .lit (.string bytes) => bytes.length + 1
  | .lit _ => 1
  | .nil => 1
  | .ptr d => uptoBulk d + 1
  | .slice elems spare => uptoBulkAll elems + uptoBulkAll spare + 1
  | .agg parts => uptoBulkAll parts + 1
  | .iface _ d => uptoBulk d + 1
  | .map entries => uptoBulkEntries entries + 1
  | .held _ => 1
def uptoBulkAll {H : Type} : List (DataW H) → Nat
  | [] => 0
  | d :: r => uptoBulk d + uptoBulkAll r
def uptoBulkEntries {H : Type} : List (Lit × DataW H) → Nat
  | [] => 0
  | x :: r => uptoBulkEntry x + uptoBulkEntries r
def uptoBulkEntry {H : Type} : Lit × DataW H → Nat
  | (.string bytes, d) => bytes.length + uptoBulk d + 1
  | (_, d) => uptoBulk d + 1
 end
def uptoSmall : (H : Type) → List (DataW H) → Bool := fun _ ds => decide (uptoBulkAll ds ≤ 1048576)
def OpenSpec.upto (s : _root_.Go.ChangeSpec) : _root_.Go.OpenSpec := { _root_.Go.OpenSpec.ofChange s with cond := some uptoSmall }

/-- 'laws.FnExactIsStanding', WHERE WHAT IT READS IS OF BULK AT MOST 1048576: true; the input reads as it did. -/
def fnExactIsStandingUptoRow : OpenClaim := { program := "ytlolifijdeenjaa", sum := "4475f01088468862e30eb69a4d8858357bad39e542ee7470d76f529ab7df3128", func := "loop.example/g01394/laws.FnExactIsStanding", spec := "fnExactIsStanding", apart := false, narrowed := true }
def FnExactIsStandingUptoSaid : Prop := fnExactIsStandingUptoRow.holds Try.pinned (OpenSpec.upto fnExactIsStandingSpec)

/-- 'laws.FnExactFewestNeighbours', WHERE WHAT IT READS IS OF BULK AT MOST 1048576: true; the input reads as it did. -/
def fnExactFewestNeighboursUptoRow : OpenClaim := { program := "ytlolifijdeenjaa", sum := "4475f01088468862e30eb69a4d8858357bad39e542ee7470d76f529ab7df3128", func := "loop.example/g01394/laws.FnExactFewestNeighbours", spec := "fnExactFewestNeighbours", apart := false, narrowed := true }
def FnExactFewestNeighboursUptoSaid : Prop := fnExactFewestNeighboursUptoRow.holds Try.pinned (OpenSpec.upto fnExactFewestNeighboursSpec)

/-- 'laws.FnExactFewestSwaps', WHERE WHAT IT READS IS OF BULK AT MOST 1048576: true; the input reads as it did. -/
def fnExactFewestSwapsUptoRow : OpenClaim := { program := "ytlolifijdeenjaa", sum := "4475f01088468862e30eb69a4d8858357bad39e542ee7470d76f529ab7df3128", func := "loop.example/g01394/laws.FnExactFewestSwaps", spec := "fnExactFewestSwaps", apart := false, narrowed := true }
def FnExactFewestSwapsUptoSaid : Prop := fnExactFewestSwapsUptoRow.holds Try.pinned (OpenSpec.upto fnExactFewestSwapsSpec)

/-- 'laws.FnExactFewestMoves', WHERE WHAT IT READS IS OF BULK AT MOST 1048576: true; the input reads as it did. -/
def fnExactFewestMovesUptoRow : OpenClaim := { program := "ytlolifijdeenjaa", sum := "4475f01088468862e30eb69a4d8858357bad39e542ee7470d76f529ab7df3128", func := "loop.example/g01394/laws.FnExactFewestMoves", spec := "fnExactFewestMoves", unfollowed := true, recurses := true, apart := false, narrowed := true }
def FnExactFewestMovesUptoSaid : Prop := fnExactFewestMovesUptoRow.holds Try.pinned (OpenSpec.upto fnExactFewestMovesSpec)

/-- 'laws.FnExactFirstStay', WHERE WHAT IT READS IS OF BULK AT MOST 1048576: true; the input reads as it did. -/
def fnExactFirstStayUptoRow : OpenClaim := { program := "ytlolifijdeenjaa", sum := "4475f01088468862e30eb69a4d8858357bad39e542ee7470d76f529ab7df3128", func := "loop.example/g01394/laws.FnExactFirstStay", spec := "fnExactFirstStay", unfollowed := true, recurses := true, apart := false, narrowed := true }
def FnExactFirstStayUptoSaid : Prop := fnExactFirstStayUptoRow.holds Try.pinned (OpenSpec.upto fnExactFirstStaySpec)

/-- 'laws.FnExactMoveVolume', WHERE WHAT IT READS IS OF BULK AT MOST 1048576: true; the input reads as it did. -/
def fnExactMoveVolumeUptoRow : OpenClaim := { program := "ytlolifijdeenjaa", sum := "4475f01088468862e30eb69a4d8858357bad39e542ee7470d76f529ab7df3128", func := "loop.example/g01394/laws.FnExactMoveVolume", spec := "fnExactMoveVolume", inPlace := ["slices.overlaps[int]"], apart := false, narrowed := true }
def FnExactMoveVolumeUptoSaid : Prop := fnExactMoveVolumeUptoRow.holds Try.pinned (OpenSpec.upto fnExactMoveVolumeSpec)

/-- 'laws.FnExactMoveChapter', WHERE WHAT IT READS IS OF BULK AT MOST 1048576: true; the input reads as it did. -/
def fnExactMoveChapterUptoRow : OpenClaim := { program := "ytlolifijdeenjaa", sum := "4475f01088468862e30eb69a4d8858357bad39e542ee7470d76f529ab7df3128", func := "loop.example/g01394/laws.FnExactMoveChapter", spec := "fnExactMoveChapter", inPlace := ["slices.overlaps[int]"], apart := false, narrowed := true }
def FnExactMoveChapterUptoSaid : Prop := fnExactMoveChapterUptoRow.holds Try.pinned (OpenSpec.upto fnExactMoveChapterSpec)

end Rows
end Go.Proofs.Ytlolifijdeenjaa
