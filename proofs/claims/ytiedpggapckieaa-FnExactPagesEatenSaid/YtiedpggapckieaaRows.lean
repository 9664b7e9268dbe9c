/-
  No cell of these rows narrows 'for every input' (looked for: loops, veiled, ifaces, maps, wideKeys, modest, calm, conditions, laid).
  DERIVED. THE GIVEN ROWS OF THIS SEAT. 12 by the template 'for every input the law returns true; each argument reads behind the call as it read before'; 0 by the template 'total and deterministic' (their statements: YtiedpggapckieaaTotals.lean).
  GIVEN WITH THE SEED: the statements are not yours to turn. If you find one false, say at which input.
  Laid BY PROGRAM, IN A SANDBOX (cutbox-rows.mjs): the forced cells as the released guide's own fill.sh prints them over the translation f1fa65c4218ceec9… (all of the seat's roots in one cut). By AI agents, Wed Nov 11 2026. No macro, syntax, notation, axiom, sorry.
-/
import Derived.Test.YtiedpggapckieaaChecked
import GoSem.Claim
import GoSem.ClaimJoined
import GoSem.ClaimMapViews
import Derived.JoinedTies
import Derived.KernelRfl
namespace Go.Proofs.Ytiedpggapckieaa
/- THE CELL 'sum', in the pinned program and in every row, IS THE sha256 OF THE DUMP (.gsa) THAT YtiedpggapckieaaProg.lean LOADS. Nothing in Lean hashes anything: it is a label: what it is worth is what the hold of that sum in a sandbox is worth. -/
noncomputable def Try.pinned : Pinned := { name := "ytiedpggapckieaa", sum := "f1fa65c4218ceec90458174507f2d133733fffbccf213cc46bd2e220f73d4b87", checked := Try.checked }
namespace Rows
def none {H : Type} : Left H := { results := [], args := [] }

/-- 'laws.FnExactIsShelf': WHATEVER THE INPUT: true; the input reads as it did. -/
def fnExactIsShelfSpec : ChangeSpec := { name := "fnExactIsShelf", fn := fun _ => fun
  | [d] => { results := [.lit (.bool true)], args := [d] }
  | _ => none }
def fnExactIsShelfRow : OpenClaim := { program := "ytiedpggapckieaa", sum := "f1fa65c4218ceec90458174507f2d133733fffbccf213cc46bd2e220f73d4b87", func := "loop.example/g01394/laws.FnExactIsShelf", spec := "fnExactIsShelf", apart := false }
def FnExactIsShelfSaid : Prop := fnExactIsShelfRow.holds Try.pinned (OpenSpec.ofChange fnExactIsShelfSpec)

/-- ITS FALSE NEIGHBOUR: 'it returns false'. Refute it at one input. -/
def fnExactIsShelfWrong : ChangeSpec := { name := "fnExactIsShelf", fn := fun _ => fun
  | [d] => { results := [.lit (.bool false)], args := [d] }
  | _ => none }
def FnExactIsShelfWrongFalsely : Prop := fnExactIsShelfRow.holds Try.pinned (OpenSpec.ofChange fnExactIsShelfWrong)

/-- 'laws.FnExactWidthOf': WHATEVER THE INPUT: true; the input reads as it did. -/
def fnExactWidthOfSpec : ChangeSpec := { name := "fnExactWidthOf", fn := fun _ => fun
  | [d] => { results := [.lit (.bool true)], args := [d] }
  | _ => none }
def fnExactWidthOfRow : OpenClaim := { program := "ytiedpggapckieaa", sum := "f1fa65c4218ceec90458174507f2d133733fffbccf213cc46bd2e220f73d4b87", func := "loop.example/g01394/laws.FnExactWidthOf", spec := "fnExactWidthOf", apart := false }
def FnExactWidthOfSaid : Prop := fnExactWidthOfRow.holds Try.pinned (OpenSpec.ofChange fnExactWidthOfSpec)

/-- ITS FALSE NEIGHBOUR: 'it returns false'. Refute it at one input. -/
def fnExactWidthOfWrong : ChangeSpec := { name := "fnExactWidthOf", fn := fun _ => fun
  | [d] => { results := [.lit (.bool false)], args := [d] }
  | _ => none }
def FnExactWidthOfWrongFalsely : Prop := fnExactWidthOfRow.holds Try.pinned (OpenSpec.ofChange fnExactWidthOfWrong)

/-- 'laws.FnExactPlaceOfVolume': WHATEVER THE INPUT: true; the input reads as it did. -/
def fnExactPlaceOfVolumeSpec : ChangeSpec := { name := "fnExactPlaceOfVolume", fn := fun _ => fun
  | [d1, d2] => { results := [.lit (.bool true)], args := [d1, d2] }
  | _ => none }
def fnExactPlaceOfVolumeRow : OpenClaim := { program := "ytiedpggapckieaa", sum := "f1fa65c4218ceec90458174507f2d133733fffbccf213cc46bd2e220f73d4b87", func := "loop.example/g01394/laws.FnExactPlaceOfVolume", spec := "fnExactPlaceOfVolume", apart := false }
def FnExactPlaceOfVolumeSaid : Prop := fnExactPlaceOfVolumeRow.holds Try.pinned (OpenSpec.ofChange fnExactPlaceOfVolumeSpec)

/-- ITS FALSE NEIGHBOUR: 'it returns false'. Refute it at one input. -/
def fnExactPlaceOfVolumeWrong : ChangeSpec := { name := "fnExactPlaceOfVolume", fn := fun _ => fun
  | [d1, d2] => { results := [.lit (.bool false)], args := [d1, d2] }
  | _ => none }
def FnExactPlaceOfVolumeWrongFalsely : Prop := fnExactPlaceOfVolumeRow.holds Try.pinned (OpenSpec.ofChange fnExactPlaceOfVolumeWrong)

/-- 'laws.FnExactFaceOf': WHATEVER THE INPUT: true; the input reads as it did. -/
def fnExactFaceOfSpec : ChangeSpec := { name := "fnExactFaceOf", fn := fun _ => fun
  | [d1, d2, d3] => { results := [.lit (.bool true)], args := [d1, d2, d3] }
  | _ => none }
def fnExactFaceOfRow : OpenClaim := { program := "ytiedpggapckieaa", sum := "f1fa65c4218ceec90458174507f2d133733fffbccf213cc46bd2e220f73d4b87", func := "loop.example/g01394/laws.FnExactFaceOf", spec := "fnExactFaceOf", apart := false }
def FnExactFaceOfSaid : Prop := fnExactFaceOfRow.holds Try.pinned (OpenSpec.ofChange fnExactFaceOfSpec)

/-- ITS FALSE NEIGHBOUR: 'it returns false'. Refute it at one input. -/
def fnExactFaceOfWrong : ChangeSpec := { name := "fnExactFaceOf", fn := fun _ => fun
  | [d1, d2, d3] => { results := [.lit (.bool false)], args := [d1, d2, d3] }
  | _ => none }
def FnExactFaceOfWrongFalsely : Prop := fnExactFaceOfRow.holds Try.pinned (OpenSpec.ofChange fnExactFaceOfWrong)

/-- 'laws.FnExactWormEats': WHATEVER THE INPUT: true; the input reads as it did. -/
def fnExactWormEatsSpec : ChangeSpec := { name := "fnExactWormEats", fn := fun _ => fun
  | [d1, d2, d3, d4, d5] => { results := [.lit (.bool true)], args := [d1, d2, d3, d4, d5] }
  | _ => none }
def fnExactWormEatsRow : OpenClaim := { program := "ytiedpggapckieaa", sum := "f1fa65c4218ceec90458174507f2d133733fffbccf213cc46bd2e220f73d4b87", func := "loop.example/g01394/laws.FnExactWormEats", spec := "fnExactWormEats", apart := false }
def FnExactWormEatsSaid : Prop := fnExactWormEatsRow.holds Try.pinned (OpenSpec.ofChange fnExactWormEatsSpec)

/-- ITS FALSE NEIGHBOUR: 'it returns false'. Refute it at one input. -/
def fnExactWormEatsWrong : ChangeSpec := { name := "fnExactWormEats", fn := fun _ => fun
  | [d1, d2, d3, d4, d5] => { results := [.lit (.bool false)], args := [d1, d2, d3, d4, d5] }
  | _ => none }
def FnExactWormEatsWrongFalsely : Prop := fnExactWormEatsRow.holds Try.pinned (OpenSpec.ofChange fnExactWormEatsWrong)

/-- 'laws.FnExactCoversEaten': WHATEVER THE INPUT: true; the input reads as it did. -/
def fnExactCoversEatenSpec : ChangeSpec := { name := "fnExactCoversEaten", fn := fun _ => fun
  | [d1, d2, d3, d4, d5] => { results := [.lit (.bool true)], args := [d1, d2, d3, d4, d5] }
  | _ => none }
def fnExactCoversEatenRow : OpenClaim := { program := "ytiedpggapckieaa", sum := "f1fa65c4218ceec90458174507f2d133733fffbccf213cc46bd2e220f73d4b87", func := "loop.example/g01394/laws.FnExactCoversEaten", spec := "fnExactCoversEaten", unfollowed := true, recurses := true, apart := false }
def FnExactCoversEatenSaid : Prop := fnExactCoversEatenRow.holds Try.pinned (OpenSpec.ofChange fnExactCoversEatenSpec)

/-- ITS FALSE NEIGHBOUR: 'it returns false'. Refute it at one input. -/
def fnExactCoversEatenWrong : ChangeSpec := { name := "fnExactCoversEaten", fn := fun _ => fun
  | [d1, d2, d3, d4, d5] => { results := [.lit (.bool false)], args := [d1, d2, d3, d4, d5] }
  | _ => none }
def FnExactCoversEatenWrongFalsely : Prop := fnExactCoversEatenRow.holds Try.pinned (OpenSpec.ofChange fnExactCoversEatenWrong)

/-- 'laws.FnExactShelvesFor': WHATEVER THE INPUT: true; the input reads as it did. -/
def fnExactShelvesForSpec : ChangeSpec := { name := "fnExactShelvesFor", fn := fun _ => fun
  | [d1, d2] => { results := [.lit (.bool true)], args := [d1, d2] }
  | _ => none }
def fnExactShelvesForRow : OpenClaim := { program := "ytiedpggapckieaa", sum := "f1fa65c4218ceec90458174507f2d133733fffbccf213cc46bd2e220f73d4b87", func := "loop.example/g01394/laws.FnExactShelvesFor", spec := "fnExactShelvesFor", apart := false }
def FnExactShelvesForSaid : Prop := fnExactShelvesForRow.holds Try.pinned (OpenSpec.ofChange fnExactShelvesForSpec)

/-- ITS FALSE NEIGHBOUR: 'it returns false'. Refute it at one input. -/
def fnExactShelvesForWrong : ChangeSpec := { name := "fnExactShelvesFor", fn := fun _ => fun
  | [d1, d2] => { results := [.lit (.bool false)], args := [d1, d2] }
  | _ => none }
def FnExactShelvesForWrongFalsely : Prop := fnExactShelvesForRow.holds Try.pinned (OpenSpec.ofChange fnExactShelvesForWrong)

/-- 'laws.FnExactSwapVolumes': WHATEVER THE INPUT: true; the input reads as it did. -/
def fnExactSwapVolumesSpec : ChangeSpec := { name := "fnExactSwapVolumes", fn := fun _ => fun
  | [d1, d2, d3] => { results := [.lit (.bool true)], args := [d1, d2, d3] }
  | _ => none }
def fnExactSwapVolumesRow : OpenClaim := { program := "ytiedpggapckieaa", sum := "f1fa65c4218ceec90458174507f2d133733fffbccf213cc46bd2e220f73d4b87", func := "loop.example/g01394/laws.FnExactSwapVolumes", spec := "fnExactSwapVolumes", apart := false }
def FnExactSwapVolumesSaid : Prop := fnExactSwapVolumesRow.holds Try.pinned (OpenSpec.ofChange fnExactSwapVolumesSpec)

/-- ITS FALSE NEIGHBOUR: 'it returns false'. Refute it at one input. -/
def fnExactSwapVolumesWrong : ChangeSpec := { name := "fnExactSwapVolumes", fn := fun _ => fun
  | [d1, d2, d3] => { results := [.lit (.bool false)], args := [d1, d2, d3] }
  | _ => none }
def FnExactSwapVolumesWrongFalsely : Prop := fnExactSwapVolumesRow.holds Try.pinned (OpenSpec.ofChange fnExactSwapVolumesWrong)

/-- 'laws.FnExactLeastShelf': WHATEVER THE INPUT: true; the input reads as it did. -/
def fnExactLeastShelfSpec : ChangeSpec := { name := "fnExactLeastShelf", fn := fun _ => fun
  | [d1, d2] => { results := [.lit (.bool true)], args := [d1, d2] }
  | _ => none }
def fnExactLeastShelfRow : OpenClaim := { program := "ytiedpggapckieaa", sum := "f1fa65c4218ceec90458174507f2d133733fffbccf213cc46bd2e220f73d4b87", func := "loop.example/g01394/laws.FnExactLeastShelf", spec := "fnExactLeastShelf", apart := false }
def FnExactLeastShelfSaid : Prop := fnExactLeastShelfRow.holds Try.pinned (OpenSpec.ofChange fnExactLeastShelfSpec)

/-- ITS FALSE NEIGHBOUR: 'it returns false'. Refute it at one input. -/
def fnExactLeastShelfWrong : ChangeSpec := { name := "fnExactLeastShelf", fn := fun _ => fun
  | [d1, d2] => { results := [.lit (.bool false)], args := [d1, d2] }
  | _ => none }
def FnExactLeastShelfWrongFalsely : Prop := fnExactLeastShelfRow.holds Try.pinned (OpenSpec.ofChange fnExactLeastShelfWrong)

/-- 'laws.FnExactShelfOf': WHATEVER THE INPUT: true; the input reads as it did. -/
def fnExactShelfOfSpec : ChangeSpec := { name := "fnExactShelfOf", fn := fun _ => fun
  | [d1, d2] => { results := [.lit (.bool true)], args := [d1, d2] }
  | _ => none }
def fnExactShelfOfRow : OpenClaim := { program := "ytiedpggapckieaa", sum := "f1fa65c4218ceec90458174507f2d133733fffbccf213cc46bd2e220f73d4b87", func := "loop.example/g01394/laws.FnExactShelfOf", spec := "fnExactShelfOf", apart := false }
def FnExactShelfOfSaid : Prop := fnExactShelfOfRow.holds Try.pinned (OpenSpec.ofChange fnExactShelfOfSpec)

/-- ITS FALSE NEIGHBOUR: 'it returns false'. Refute it at one input. -/
def fnExactShelfOfWrong : ChangeSpec := { name := "fnExactShelfOf", fn := fun _ => fun
  | [d1, d2] => { results := [.lit (.bool false)], args := [d1, d2] }
  | _ => none }
def FnExactShelfOfWrongFalsely : Prop := fnExactShelfOfRow.holds Try.pinned (OpenSpec.ofChange fnExactShelfOfWrong)

/-- 'laws.FnExactLongestWorm': WHATEVER THE INPUT: true; the input reads as it did. -/
def fnExactLongestWormSpec : ChangeSpec := { name := "fnExactLongestWorm", fn := fun _ => fun
  | [d] => { results := [.lit (.bool true)], args := [d] }
  | _ => none }
def fnExactLongestWormRow : OpenClaim := { program := "ytiedpggapckieaa", sum := "f1fa65c4218ceec90458174507f2d133733fffbccf213cc46bd2e220f73d4b87", func := "loop.example/g01394/laws.FnExactLongestWorm", spec := "fnExactLongestWorm", apart := false }
def FnExactLongestWormSaid : Prop := fnExactLongestWormRow.holds Try.pinned (OpenSpec.ofChange fnExactLongestWormSpec)

/-- ITS FALSE NEIGHBOUR: 'it returns false'. Refute it at one input. -/
def fnExactLongestWormWrong : ChangeSpec := { name := "fnExactLongestWorm", fn := fun _ => fun
  | [d] => { results := [.lit (.bool false)], args := [d] }
  | _ => none }
def FnExactLongestWormWrongFalsely : Prop := fnExactLongestWormRow.holds Try.pinned (OpenSpec.ofChange fnExactLongestWormWrong)

/-- 'laws.FnExactPagesEaten': WHATEVER THE INPUT: true; the input reads as it did. -/
def fnExactPagesEatenSpec : ChangeSpec := { name := "fnExactPagesEaten", fn := fun _ => fun
  | [d1, d2, d3, d4, d5] => { results := [.lit (.bool true)], args := [d1, d2, d3, d4, d5] }
  | _ => none }
def fnExactPagesEatenRow : OpenClaim := { program := "ytiedpggapckieaa", sum := "f1fa65c4218ceec90458174507f2d133733fffbccf213cc46bd2e220f73d4b87", func := "loop.example/g01394/laws.FnExactPagesEaten", spec := "fnExactPagesEaten", unfollowed := true, recurses := true, apart := false }
def FnExactPagesEatenSaid : Prop := fnExactPagesEatenRow.holds Try.pinned (OpenSpec.ofChange fnExactPagesEatenSpec)

/-- ITS FALSE NEIGHBOUR: 'it returns false'. Refute it at one input. -/
def fnExactPagesEatenWrong : ChangeSpec := { name := "fnExactPagesEaten", fn := fun _ => fun
  | [d1, d2, d3, d4, d5] => { results := [.lit (.bool false)], args := [d1, d2, d3, d4, d5] }
  | _ => none }
def FnExactPagesEatenWrongFalsely : Prop := fnExactPagesEatenRow.holds Try.pinned (OpenSpec.ofChange fnExactPagesEatenWrong)

/- THE SECOND FORM. 'bulk': how many values and letters a reading holds, each counted each time it is reached (what is shared counts as often as it is met; a slice's spare places count too). A statement '..UptoSaid' is the law's where the arguments, and the package variables that the reading takes, are together of bulk at most 1048576: NARROWER than '..Said'. Prove '..Said' where nothing that the law and all that it calls make is longer than what came in: it says more and counts as full. Else prove '..UptoSaid'. A law counts once. -/
mutual
def uptoBulk {H : Type} : DataW H → Nat
  | .lit (.string bytes) => bytes.length + 1
  | .lit _ => 1
  | .nil => 1
  | .ptr d => uptoBulk d + 1
  | .slice elems spare => uptoBulkAll elems + uptoBulkAll spare + 1
  | .agg parts => uptoBulkAll parts + 1
  | .iface _ d => uptoBulk d + 1
  | .map entries => uptoBulkEntries entries + 1
  | .held _ => 1
def uptoBulkAll {H : Type} : List (DataW H) → Nat
  | [] => 0
  | d :: r => uptoBulk d + uptoBulkAll r
def uptoBulkEntries {H : Type} : List (Lit × DataW H) → Nat
  | [] => 0
  | x :: r => uptoBulkEntry x + uptoBulkEntries r
def uptoBulkEntry {H : Type} : Lit × DataW H → Nat
  | (.string bytes, d) => bytes.length + uptoBulk d + 1
  | (_, d) => uptoBulk d + 1
 end
def uptoSmall : (H : Type) → List (DataW H) → Bool := fun _ ds => decide (uptoBulkAll ds ≤ 1048576)
def OpenSpec.upto (s : _root_.Go.ChangeSpec) : _root_.Go.OpenSpec := { _root_.Go.OpenSpec.ofChange s with cond := some uptoSmall }

/-- 'laws.FnExactIsShelf', WHERE WHAT IT READS IS OF BULK AT MOST 1048576: true; the input reads as it did. -/
def fnExactIsShelfUptoRow : OpenClaim := { program := "ytiedpggapckieaa", sum := "f1fa65c4218ceec90458174507f2d133733fffbccf213cc46bd2e220f73d4b87", func := "loop.example/g01394/laws.FnExactIsShelf", spec := "fnExactIsShelf", apart := false, narrowed := true }
def FnExactIsShelfUptoSaid : Prop := fnExactIsShelfUptoRow.holds Try.pinned (OpenSpec.upto fnExactIsShelfSpec)

/-- 'laws.FnExactWidthOf', WHERE WHAT IT READS IS OF BULK AT MOST 1048576: true; the input reads as it did. -/
def fnExactWidthOfUptoRow : OpenClaim := { program := "ytiedpggapckieaa", sum := "f1fa65c4218ceec90458174507f2d133733fffbccf213cc46bd2e220f73d4b87", func := "loop.example/g01394/laws.FnExactWidthOf", spec := "fnExactWidthOf", apart := false, narrowed := true }
def FnExactWidthOfUptoSaid : Prop := fnExactWidthOfUptoRow.holds Try.pinned (OpenSpec.upto fnExactWidthOfSpec)

/-- 'laws.FnExactPlaceOfVolume', WHERE WHAT IT READS IS OF BULK AT MOST 1048576: true; the input reads as it did. -/
def fnExactPlaceOfVolumeUptoRow : OpenClaim := { program := "ytiedpggapckieaa", sum := "f1fa65c4218ceec90458174507f2d133733fffbccf213cc46bd2e220f73d4b87", func := "loop.example/g01394/laws.FnExactPlaceOfVolume", spec := "fnExactPlaceOfVolume", apart := false, narrowed := true }
def FnExactPlaceOfVolumeUptoSaid : Prop := fnExactPlaceOfVolumeUptoRow.holds Try.pinned (OpenSpec.upto fnExactPlaceOfVolumeSpec)

/-- 'laws.FnExactFaceOf', WHERE WHAT IT READS IS OF BULK AT MOST 1048576: true; the input reads as it did. -/
def fnExactFaceOfUptoRow : OpenClaim := { program := "ytiedpggapckieaa", sum := "f1fa65c4218ceec90458174507f2d133733fffbccf213cc46bd2e220f73d4b87", func := "loop.example/g01394/laws.FnExactFaceOf", spec := "fnExactFaceOf", apart := false, narrowed := true }
def FnExactFaceOfUptoSaid : Prop := fnExactFaceOfUptoRow.holds Try.pinned (OpenSpec.upto fnExactFaceOfSpec)

/-- 'laws.FnExactWormEats', WHERE WHAT IT READS IS OF BULK AT MOST 1048576: true; the input reads as it did. -/
def fnExactWormEatsUptoRow : OpenClaim := { program := "ytiedpggapckieaa", sum := "f1fa65c4218ceec90458174507f2d133733fffbccf213cc46bd2e220f73d4b87", func := "loop.example/g01394/laws.FnExactWormEats", spec := "fnExactWormEats", apart := false, narrowed := true }
def FnExactWormEatsUptoSaid : Prop := fnExactWormEatsUptoRow.holds Try.pinned (OpenSpec.upto fnExactWormEatsSpec)

/-- 'laws.FnExactCoversEaten', WHERE WHAT IT READS IS OF BULK AT MOST 1048576: true; the input reads as it did. -/
def fnExactCoversEatenUptoRow : OpenClaim := { program := "ytiedpggapckieaa", sum := "f1fa65c4218ceec90458174507f2d133733fffbccf213cc46bd2e220f73d4b87", func := "loop.example/g01394/laws.FnExactCoversEaten", spec := "fnExactCoversEaten", unfollowed := true, recurses := true, apart := false, narrowed := true }
def FnExactCoversEatenUptoSaid : Prop := fnExactCoversEatenUptoRow.holds Try.pinned (OpenSpec.upto fnExactCoversEatenSpec)

/-- 'laws.FnExactShelvesFor', WHERE WHAT IT READS IS OF BULK AT MOST 1048576: true; the input reads as it did. -/
def fnExactShelvesForUptoRow : OpenClaim := { program := "ytiedpggapckieaa", sum := "f1fa65c4218ceec90458174507f2d133733fffbccf213cc46bd2e220f73d4b87", func := "loop.example/g01394/laws.FnExactShelvesFor", spec := "fnExactShelvesFor", apart := false, narrowed := true }
def FnExactShelvesForUptoSaid : Prop := fnExactShelvesForUptoRow.holds Try.pinned (OpenSpec.upto fnExactShelvesForSpec)

/-- 'laws.FnExactSwapVolumes', WHERE WHAT IT READS IS OF BULK AT MOST 1048576: true; the input reads as it did. -/
def fnExactSwapVolumesUptoRow : OpenClaim := { program := "ytiedpggapckieaa", sum := "f1fa65c4218ceec90458174507f2d133733fffbccf213cc46bd2e220f73d4b87", func := "loop.example/g01394/laws.FnExactSwapVolumes", spec := "fnExactSwapVolumes", apart := false, narrowed := true }
def FnExactSwapVolumesUptoSaid : Prop := fnExactSwapVolumesUptoRow.holds Try.pinned (OpenSpec.upto fnExactSwapVolumesSpec)

/-- 'laws.FnExactLeastShelf', WHERE WHAT IT READS IS OF BULK AT MOST 1048576: true; the input reads as it did. -/
def fnExactLeastShelfUptoRow : OpenClaim := { program := "ytiedpggapckieaa", sum := "f1fa65c4218ceec90458174507f2d133733fffbccf213cc46bd2e220f73d4b87", func := "loop.example/g01394/laws.FnExactLeastShelf", spec := "fnExactLeastShelf", apart := false, narrowed := true }
def FnExactLeastShelfUptoSaid : Prop := fnExactLeastShelfUptoRow.holds Try.pinned (OpenSpec.upto fnExactLeastShelfSpec)

/-- 'laws.FnExactShelfOf', WHERE WHAT IT READS IS OF BULK AT MOST 1048576: true; the input reads as it did. -/
def fnExactShelfOfUptoRow : OpenClaim := { program := "ytiedpggapckieaa", sum := "f1fa65c4218ceec90458174507f2d133733fffbccf213cc46bd2e220f73d4b87", func := "loop.example/g01394/laws.FnExactShelfOf", spec := "fnExactShelfOf", apart := false, narrowed := true }
def FnExactShelfOfUptoSaid : Prop := fnExactShelfOfUptoRow.holds Try.pinned (OpenSpec.upto fnExactShelfOfSpec)

/-- 'laws.FnExactLongestWorm', WHERE WHAT IT READS IS OF BULK AT MOST 1048576: true; the input reads as it did. -/
def fnExactLongestWormUptoRow : OpenClaim := { program := "ytiedpggapckieaa", sum := "f1fa65c4218ceec90458174507f2d133733fffbccf213cc46bd2e220f73d4b87", func := "loop.example/g01394/laws.FnExactLongestWorm", spec := "fnExactLongestWorm", apart := false, narrowed := true }
def FnExactLongestWormUptoSaid : Prop := fnExactLongestWormUptoRow.holds Try.pinned (OpenSpec.upto fnExactLongestWormSpec)

/-- 'laws.FnExactPagesEaten', WHERE WHAT IT READS IS OF BULK AT MOST 1048576: true; the input reads as it did. -/
def fnExactPagesEatenUptoRow : OpenClaim := { program := "ytiedpggapckieaa", sum := "f1fa65c4218ceec90458174507f2d133733fffbccf213cc46bd2e220f73d4b87", func := "loop.example/g01394/laws.FnExactPagesEaten", spec := "fnExactPagesEaten", unfollowed := true, recurses := true, apart := false, narrowed := true }
def FnExactPagesEatenUptoSaid : Prop := fnExactPagesEatenUptoRow.holds Try.pinned (OpenSpec.upto fnExactPagesEatenSpec)

end Rows
end Go.Proofs.Ytiedpggapckieaa
