/-
  No cell of these rows narrows 'for every input' (looked for: loops, veiled, ifaces, maps, wideKeys, modest, calm, conditions, laid).
  DERIVED. THE GIVEN ROWS OF THIS SEAT. 11 by the template 'for every input the law returns true; each argument reads behind the call as it read before'; 0 by the template 'total and deterministic' (their statements: YtmckakhdipjneaaTotals.lean).
  GIVEN WITH THE SEED: the statements are not yours to turn. If you find one false, say at which input.
  Laid BY PROGRAM, IN A SANDBOX (cutbox-rows.mjs): the forced cells as the released guide's own fill.sh prints them over the translation 54b54053069fcb99… (all of the seat's roots in one cut). By AI agents, Wed Nov 11 2026. No macro, syntax, notation, axiom, sorry.
-/
import Derived.Test.YtmckakhdipjneaaChecked
import GoSem.Claim
import GoSem.ClaimJoined
import GoSem.ClaimMapViews
import Derived.JoinedTies
import Derived.KernelRfl
namespace Go.Proofs.Ytmckakhdipjneaa
/- THE CELL 'sum', in the pinned program and in every row, IS THE sha256 OF THE DUMP (.gsa) THAT YtmckakhdipjneaaProg.lean LOADS. Nothing in Lean hashes anything: it is a label: what it is worth is what the hold of that sum in a sandbox is worth. -/
noncomputable def Try.pinned : Pinned := { name := "ytmckakhdipjneaa", sum := "54b54053069fcb99bbb1e46dc95c309663d05e27e781ce5db1247a65b171dd33", checked := Try.checked }
namespace Rows
def none {H : Type} : Left H := { results := [], args := [] }

/-- 'laws.FnExactAreChapters': WHATEVER THE INPUT: true; the input reads as it did. -/
def fnExactAreChaptersSpec : ChangeSpec := { name := "fnExactAreChapters", fn := fun _ => fun
  | [d] => { results := [.lit (.bool true)], args := [d] }
  | _ => none }
def fnExactAreChaptersRow : OpenClaim := { program := "ytmckakhdipjneaa", sum := "54b54053069fcb99bbb1e46dc95c309663d05e27e781ce5db1247a65b171dd33", func := "loop.example/g01394/laws.FnExactAreChapters", spec := "fnExactAreChapters", apart := false }
def FnExactAreChaptersSaid : Prop := fnExactAreChaptersRow.holds Try.pinned (OpenSpec.ofChange fnExactAreChaptersSpec)

/-- ITS FALSE NEIGHBOUR: 'it returns false'. Refute it at one input. -/
def fnExactAreChaptersWrong : ChangeSpec := { name := "fnExactAreChapters", fn := fun _ => fun
  | [d] => { results := [.lit (.bool false)], args := [d] }
  | _ => none }
def FnExactAreChaptersWrongFalsely : Prop := fnExactAreChaptersRow.holds Try.pinned (OpenSpec.ofChange fnExactAreChaptersWrong)

/-- 'laws.FnExactFewestBlanks': WHATEVER THE INPUT: true; the input reads as it did. -/
def fnExactFewestBlanksSpec : ChangeSpec := { name := "fnExactFewestBlanks", fn := fun _ => fun
  | [d] => { results := [.lit (.bool true)], args := [d] }
  | _ => none }
def fnExactFewestBlanksRow : OpenClaim := { program := "ytmckakhdipjneaa", sum := "54b54053069fcb99bbb1e46dc95c309663d05e27e781ce5db1247a65b171dd33", func := "loop.example/g01394/laws.FnExactFewestBlanks", spec := "fnExactFewestBlanks", apart := false }
def FnExactFewestBlanksSaid : Prop := fnExactFewestBlanksRow.holds Try.pinned (OpenSpec.ofChange fnExactFewestBlanksSpec)

/-- ITS FALSE NEIGHBOUR: 'it returns false'. Refute it at one input. -/
def fnExactFewestBlanksWrong : ChangeSpec := { name := "fnExactFewestBlanks", fn := fun _ => fun
  | [d] => { results := [.lit (.bool false)], args := [d] }
  | _ => none }
def FnExactFewestBlanksWrongFalsely : Prop := fnExactFewestBlanksRow.holds Try.pinned (OpenSpec.ofChange fnExactFewestBlanksWrong)

/-- 'laws.FnExactLongestChapter': WHATEVER THE INPUT: true; the input reads as it did. -/
def fnExactLongestChapterSpec : ChangeSpec := { name := "fnExactLongestChapter", fn := fun _ => fun
  | [d] => { results := [.lit (.bool true)], args := [d] }
  | _ => none }
def fnExactLongestChapterRow : OpenClaim := { program := "ytmckakhdipjneaa", sum := "54b54053069fcb99bbb1e46dc95c309663d05e27e781ce5db1247a65b171dd33", func := "loop.example/g01394/laws.FnExactLongestChapter", spec := "fnExactLongestChapter", apart := false }
def FnExactLongestChapterSaid : Prop := fnExactLongestChapterRow.holds Try.pinned (OpenSpec.ofChange fnExactLongestChapterSpec)

/-- ITS FALSE NEIGHBOUR: 'it returns false'. Refute it at one input. -/
def fnExactLongestChapterWrong : ChangeSpec := { name := "fnExactLongestChapter", fn := fun _ => fun
  | [d] => { results := [.lit (.bool false)], args := [d] }
  | _ => none }
def FnExactLongestChapterWrongFalsely : Prop := fnExactLongestChapterRow.holds Try.pinned (OpenSpec.ofChange fnExactLongestChapterWrong)

/-- 'laws.FnExactPagesOfChapters': WHATEVER THE INPUT: true; the input reads as it did. -/
def fnExactPagesOfChaptersSpec : ChangeSpec := { name := "fnExactPagesOfChapters", fn := fun _ => fun
  | [d1, d2] => { results := [.lit (.bool true)], args := [d1, d2] }
  | _ => none }
def fnExactPagesOfChaptersRow : OpenClaim := { program := "ytmckakhdipjneaa", sum := "54b54053069fcb99bbb1e46dc95c309663d05e27e781ce5db1247a65b171dd33", func := "loop.example/g01394/laws.FnExactPagesOfChapters", spec := "fnExactPagesOfChapters", apart := false }
def FnExactPagesOfChaptersSaid : Prop := fnExactPagesOfChaptersRow.holds Try.pinned (OpenSpec.ofChange fnExactPagesOfChaptersSpec)

/-- ITS FALSE NEIGHBOUR: 'it returns false'. Refute it at one input. -/
def fnExactPagesOfChaptersWrong : ChangeSpec := { name := "fnExactPagesOfChapters", fn := fun _ => fun
  | [d1, d2] => { results := [.lit (.bool false)], args := [d1, d2] }
  | _ => none }
def FnExactPagesOfChaptersWrongFalsely : Prop := fnExactPagesOfChaptersRow.holds Try.pinned (OpenSpec.ofChange fnExactPagesOfChaptersWrong)

/-- 'laws.FnExactCountFewestBlanks': WHATEVER THE INPUT: true; the input reads as it did. -/
def fnExactCountFewestBlanksSpec : ChangeSpec := { name := "fnExactCountFewestBlanks", fn := fun _ => fun
  | [d] => { results := [.lit (.bool true)], args := [d] }
  | _ => none }
def fnExactCountFewestBlanksRow : OpenClaim := { program := "ytmckakhdipjneaa", sum := "54b54053069fcb99bbb1e46dc95c309663d05e27e781ce5db1247a65b171dd33", func := "loop.example/g01394/laws.FnExactCountFewestBlanks", spec := "fnExactCountFewestBlanks", apart := false }
def FnExactCountFewestBlanksSaid : Prop := fnExactCountFewestBlanksRow.holds Try.pinned (OpenSpec.ofChange fnExactCountFewestBlanksSpec)

/-- ITS FALSE NEIGHBOUR: 'it returns false'. Refute it at one input. -/
def fnExactCountFewestBlanksWrong : ChangeSpec := { name := "fnExactCountFewestBlanks", fn := fun _ => fun
  | [d] => { results := [.lit (.bool false)], args := [d] }
  | _ => none }
def FnExactCountFewestBlanksWrongFalsely : Prop := fnExactCountFewestBlanksRow.holds Try.pinned (OpenSpec.ofChange fnExactCountFewestBlanksWrong)

/-- 'laws.FnExactFewestVolumes': WHATEVER THE INPUT: true; the input reads as it did. -/
def fnExactFewestVolumesSpec : ChangeSpec := { name := "fnExactFewestVolumes", fn := fun _ => fun
  | [d1, d2] => { results := [.lit (.bool true)], args := [d1, d2] }
  | _ => none }
def fnExactFewestVolumesRow : OpenClaim := { program := "ytmckakhdipjneaa", sum := "54b54053069fcb99bbb1e46dc95c309663d05e27e781ce5db1247a65b171dd33", func := "loop.example/g01394/laws.FnExactFewestVolumes", spec := "fnExactFewestVolumes", apart := false }
def FnExactFewestVolumesSaid : Prop := fnExactFewestVolumesRow.holds Try.pinned (OpenSpec.ofChange fnExactFewestVolumesSpec)

/-- ITS FALSE NEIGHBOUR: 'it returns false'. Refute it at one input. -/
def fnExactFewestVolumesWrong : ChangeSpec := { name := "fnExactFewestVolumes", fn := fun _ => fun
  | [d1, d2] => { results := [.lit (.bool false)], args := [d1, d2] }
  | _ => none }
def FnExactFewestVolumesWrongFalsely : Prop := fnExactFewestVolumesRow.holds Try.pinned (OpenSpec.ofChange fnExactFewestVolumesWrong)

/-- 'laws.FnExactChapterOfPage': WHATEVER THE INPUT: true; the input reads as it did. -/
def fnExactChapterOfPageSpec : ChangeSpec := { name := "fnExactChapterOfPage", fn := fun _ => fun
  | [d1, d2, d3] => { results := [.lit (.bool true)], args := [d1, d2, d3] }
  | _ => none }
def fnExactChapterOfPageRow : OpenClaim := { program := "ytmckakhdipjneaa", sum := "54b54053069fcb99bbb1e46dc95c309663d05e27e781ce5db1247a65b171dd33", func := "loop.example/g01394/laws.FnExactChapterOfPage", spec := "fnExactChapterOfPage", apart := false }
def FnExactChapterOfPageSaid : Prop := fnExactChapterOfPageRow.holds Try.pinned (OpenSpec.ofChange fnExactChapterOfPageSpec)

/-- ITS FALSE NEIGHBOUR: 'it returns false'. Refute it at one input. -/
def fnExactChapterOfPageWrong : ChangeSpec := { name := "fnExactChapterOfPage", fn := fun _ => fun
  | [d1, d2, d3] => { results := [.lit (.bool false)], args := [d1, d2, d3] }
  | _ => none }
def FnExactChapterOfPageWrongFalsely : Prop := fnExactChapterOfPageRow.holds Try.pinned (OpenSpec.ofChange fnExactChapterOfPageWrong)

/-- 'laws.FnExactBeginningsOf': WHATEVER THE INPUT: true; the input reads as it did. -/
def fnExactBeginningsOfSpec : ChangeSpec := { name := "fnExactBeginningsOf", fn := fun _ => fun
  | [d1, d2] => { results := [.lit (.bool true)], args := [d1, d2] }
  | _ => none }
def fnExactBeginningsOfRow : OpenClaim := { program := "ytmckakhdipjneaa", sum := "54b54053069fcb99bbb1e46dc95c309663d05e27e781ce5db1247a65b171dd33", func := "loop.example/g01394/laws.FnExactBeginningsOf", spec := "fnExactBeginningsOf", apart := false }
def FnExactBeginningsOfSaid : Prop := fnExactBeginningsOfRow.holds Try.pinned (OpenSpec.ofChange fnExactBeginningsOfSpec)

/-- ITS FALSE NEIGHBOUR: 'it returns false'. Refute it at one input. -/
def fnExactBeginningsOfWrong : ChangeSpec := { name := "fnExactBeginningsOf", fn := fun _ => fun
  | [d1, d2] => { results := [.lit (.bool false)], args := [d1, d2] }
  | _ => none }
def FnExactBeginningsOfWrongFalsely : Prop := fnExactBeginningsOfRow.holds Try.pinned (OpenSpec.ofChange fnExactBeginningsOfWrong)

/-- 'laws.FnExactLeastVolume': WHATEVER THE INPUT: true; the input reads as it did. -/
def fnExactLeastVolumeSpec : ChangeSpec := { name := "fnExactLeastVolume", fn := fun _ => fun
  | [d1, d2] => { results := [.lit (.bool true)], args := [d1, d2] }
  | _ => none }
def fnExactLeastVolumeRow : OpenClaim := { program := "ytmckakhdipjneaa", sum := "54b54053069fcb99bbb1e46dc95c309663d05e27e781ce5db1247a65b171dd33", func := "loop.example/g01394/laws.FnExactLeastVolume", spec := "fnExactLeastVolume", recurses := true, apart := false }
def FnExactLeastVolumeSaid : Prop := fnExactLeastVolumeRow.holds Try.pinned (OpenSpec.ofChange fnExactLeastVolumeSpec)

/-- ITS FALSE NEIGHBOUR: 'it returns false'. Refute it at one input. -/
def fnExactLeastVolumeWrong : ChangeSpec := { name := "fnExactLeastVolume", fn := fun _ => fun
  | [d1, d2] => { results := [.lit (.bool false)], args := [d1, d2] }
  | _ => none }
def FnExactLeastVolumeWrongFalsely : Prop := fnExactLeastVolumeRow.holds Try.pinned (OpenSpec.ofChange fnExactLeastVolumeWrong)

/-- 'laws.FnExactBlanksOf': WHATEVER THE INPUT: true; the input reads as it did. -/
def fnExactBlanksOfSpec : ChangeSpec := { name := "fnExactBlanksOf", fn := fun _ => fun
  | [d1, d2] => { results := [.lit (.bool true)], args := [d1, d2] }
  | _ => none }
def fnExactBlanksOfRow : OpenClaim := { program := "ytmckakhdipjneaa", sum := "54b54053069fcb99bbb1e46dc95c309663d05e27e781ce5db1247a65b171dd33", func := "loop.example/g01394/laws.FnExactBlanksOf", spec := "fnExactBlanksOf", apart := false }
def FnExactBlanksOfSaid : Prop := fnExactBlanksOfRow.holds Try.pinned (OpenSpec.ofChange fnExactBlanksOfSpec)

/-- ITS FALSE NEIGHBOUR: 'it returns false'. Refute it at one input. -/
def fnExactBlanksOfWrong : ChangeSpec := { name := "fnExactBlanksOf", fn := fun _ => fun
  | [d1, d2] => { results := [.lit (.bool false)], args := [d1, d2] }
  | _ => none }
def FnExactBlanksOfWrongFalsely : Prop := fnExactBlanksOfRow.holds Try.pinned (OpenSpec.ofChange fnExactBlanksOfWrong)

/-- 'laws.FnExactFirstVolumes': WHATEVER THE INPUT: true; the input reads as it did. -/
def fnExactFirstVolumesSpec : ChangeSpec := { name := "fnExactFirstVolumes", fn := fun _ => fun
  | [d1, d2] => { results := [.lit (.bool true)], args := [d1, d2] }
  | _ => none }
def fnExactFirstVolumesRow : OpenClaim := { program := "ytmckakhdipjneaa", sum := "54b54053069fcb99bbb1e46dc95c309663d05e27e781ce5db1247a65b171dd33", func := "loop.example/g01394/laws.FnExactFirstVolumes", spec := "fnExactFirstVolumes", recurses := true, apart := false }
def FnExactFirstVolumesSaid : Prop := fnExactFirstVolumesRow.holds Try.pinned (OpenSpec.ofChange fnExactFirstVolumesSpec)

/-- ITS FALSE NEIGHBOUR: 'it returns false'. Refute it at one input. -/
def fnExactFirstVolumesWrong : ChangeSpec := { name := "fnExactFirstVolumes", fn := fun _ => fun
  | [d1, d2] => { results := [.lit (.bool false)], args := [d1, d2] }
  | _ => none }
def FnExactFirstVolumesWrongFalsely : Prop := fnExactFirstVolumesRow.holds Try.pinned (OpenSpec.ofChange fnExactFirstVolumesWrong)

/- THE SECOND FORM. 'bulk': how many values and letters a reading holds, each counted each time it is reached (what is shared counts as often as it is met; a slice's spare places count too). A statement '..UptoSaid' is the law's where the arguments, and the package variables that the reading takes, are together of bulk at most 1048576: NARROWER than '..Said'. Prove '..Said' where nothing that the law and all that it calls make is longer than what came in: it says more and counts as full. Else prove '..UptoSaid'. A law counts once. -/
mutual
def uptoBulk {H : Type} : DataW H → Nat
  | .lit (.string bytes) => bytes.length + 1
  | .lit _ => 1
  | .nil => 1
  | .ptr d => uptoBulk d + 1
  | .slice elems spare => uptoBulkAll elems + uptoBulkAll spare + 1
  | .agg parts => uptoBulkAll parts + 1
  | .iface _ d => uptoBulk d + 1
  | .map entries => uptoBulkEntries entries + 1
  | .held _ => 1
def uptoBulkAll {H : Type} : List (DataW H) → Nat
  | [] => 0
  | d :: r => uptoBulk d + uptoBulkAll r
def uptoBulkEntries {H : Type} : List (Lit × DataW H) → Nat
  | [] => 0
  | x :: r => uptoBulkEntry x + uptoBulkEntries r
def uptoBulkEntry {H : Type} : Lit × DataW H → Nat
  | (.string bytes, d) => bytes.length + uptoBulk d + 1
  | (_, d) => uptoBulk d + 1
 end
def uptoSmall : (H : Type) → List (DataW H) → Bool := fun _ ds => decide (uptoBulkAll ds ≤ 1048576)
def OpenSpec.upto (s : _root_.Go.ChangeSpec) : _root_.Go.OpenSpec := { _root_.Go.OpenSpec.ofChange s with cond := some uptoSmall }

/-- 'laws.FnExactAreChapters', WHERE WHAT IT READS IS OF BULK AT MOST 1048576: true; the input reads as it did. -/
def fnExactAreChaptersUptoRow : OpenClaim := { program := "ytmckakhdipjneaa", sum := "54b54053069fcb99bbb1e46dc95c309663d05e27e781ce5db1247a65b171dd33", func := "loop.example/g01394/laws.FnExactAreChapters", spec := "fnExactAreChapters", apart := false, narrowed := true }
def FnExactAreChaptersUptoSaid : Prop := fnExactAreChaptersUptoRow.holds Try.pinned (OpenSpec.upto fnExactAreChaptersSpec)

/-- 'laws.FnExactFewestBlanks', WHERE WHAT IT READS IS OF BULK AT MOST 1048576: true; the input reads as it did. -/
def fnExactFewestBlanksUptoRow : OpenClaim := { program := "ytmckakhdipjneaa", sum := "54b54053069fcb99bbb1e46dc95c309663d05e27e781ce5db1247a65b171dd33", func := "loop.example/g01394/laws.FnExactFewestBlanks", spec := "fnExactFewestBlanks", apart := false, narrowed := true }
def FnExactFewestBlanksUptoSaid : Prop := fnExactFewestBlanksUptoRow.holds Try.pinned (OpenSpec.upto fnExactFewestBlanksSpec)

/-- 'laws.FnExactLongestChapter', WHERE WHAT IT READS IS OF BULK AT MOST 1048576: true; the input reads as it did. -/
def fnExactLongestChapterUptoRow : OpenClaim := { program := "ytmckakhdipjneaa", sum := "54b54053069fcb99bbb1e46dc95c309663d05e27e781ce5db1247a65b171dd33", func := "loop.example/g01394/laws.FnExactLongestChapter", spec := "fnExactLongestChapter", apart := false, narrowed := true }
def FnExactLongestChapterUptoSaid : Prop := fnExactLongestChapterUptoRow.holds Try.pinned (OpenSpec.upto fnExactLongestChapterSpec)

/-- 'laws.FnExactPagesOfChapters', WHERE WHAT IT READS IS OF BULK AT MOST 1048576: true; the input reads as it did. -/
def fnExactPagesOfChaptersUptoRow : OpenClaim := { program := "ytmckakhdipjneaa", sum := "54b54053069fcb99bbb1e46dc95c309663d05e27e781ce5db1247a65b171dd33", func := "loop.example/g01394/laws.FnExactPagesOfChapters", spec := "fnExactPagesOfChapters", apart := false, narrowed := true }
def FnExactPagesOfChaptersUptoSaid : Prop := fnExactPagesOfChaptersUptoRow.holds Try.pinned (OpenSpec.upto fnExactPagesOfChaptersSpec)

/-- 'laws.FnExactCountFewestBlanks', WHERE WHAT IT READS IS OF BULK AT MOST 1048576: true; the input reads as it did. -/
def fnExactCountFewestBlanksUptoRow : OpenClaim := { program := "ytmckakhdipjneaa", sum := "54b54053069fcb99bbb1e46dc95c309663d05e27e781ce5db1247a65b171dd33", func := "loop.example/g01394/laws.FnExactCountFewestBlanks", spec := "fnExactCountFewestBlanks", apart := false, narrowed := true }
def FnExactCountFewestBlanksUptoSaid : Prop := fnExactCountFewestBlanksUptoRow.holds Try.pinned (OpenSpec.upto fnExactCountFewestBlanksSpec)

/-- 'laws.FnExactFewestVolumes', WHERE WHAT IT READS IS OF BULK AT MOST 1048576: true; the input reads as it did. -/
def fnExactFewestVolumesUptoRow : OpenClaim := { program := "ytmckakhdipjneaa", sum := "54b54053069fcb99bbb1e46dc95c309663d05e27e781ce5db1247a65b171dd33", func := "loop.example/g01394/laws.FnExactFewestVolumes", spec := "fnExactFewestVolumes", apart := false, narrowed := true }
def FnExactFewestVolumesUptoSaid : Prop := fnExactFewestVolumesUptoRow.holds Try.pinned (OpenSpec.upto fnExactFewestVolumesSpec)

/-- 'laws.FnExactChapterOfPage', WHERE WHAT IT READS IS OF BULK AT MOST 1048576: true; the input reads as it did. -/
def fnExactChapterOfPageUptoRow : OpenClaim := { program := "ytmckakhdipjneaa", sum := "54b54053069fcb99bbb1e46dc95c309663d05e27e781ce5db1247a65b171dd33", func := "loop.example/g01394/laws.FnExactChapterOfPage", spec := "fnExactChapterOfPage", apart := false, narrowed := true }
def FnExactChapterOfPageUptoSaid : Prop := fnExactChapterOfPageUptoRow.holds Try.pinned (OpenSpec.upto fnExactChapterOfPageSpec)

/-- 'laws.FnExactBeginningsOf', WHERE WHAT IT READS IS OF BULK AT MOST 1048576: true; the input reads as it did. -/
def fnExactBeginningsOfUptoRow : OpenClaim := { program := "ytmckakhdipjneaa", sum := "54b54053069fcb99bbb1e46dc95c309663d05e27e781ce5db1247a65b171dd33", func := "loop.example/g01394/laws.FnExactBeginningsOf", spec := "fnExactBeginningsOf", apart := false, narrowed := true }
def FnExactBeginningsOfUptoSaid : Prop := fnExactBeginningsOfUptoRow.holds Try.pinned (OpenSpec.upto fnExactBeginningsOfSpec)

/-- 'laws.FnExactLeastVolume', WHERE WHAT IT READS IS OF BULK AT MOST 1048576: true; the input reads as it did. -/
def fnExactLeastVolumeUptoRow : OpenClaim := { program := "ytmckakhdipjneaa", sum := "54b54053069fcb99bbb1e46dc95c309663d05e27e781ce5db1247a65b171dd33", func := "loop.example/g01394/laws.FnExactLeastVolume", spec := "fnExactLeastVolume", recurses := true, apart := false, narrowed := true }
def FnExactLeastVolumeUptoSaid : Prop := fnExactLeastVolumeUptoRow.holds Try.pinned (OpenSpec.upto fnExactLeastVolumeSpec)

/-- 'laws.FnExactBlanksOf', WHERE WHAT IT READS IS OF BULK AT MOST 1048576: true; the input reads as it did. -/
def fnExactBlanksOfUptoRow : OpenClaim := { program := "ytmckakhdipjneaa", sum := "54b54053069fcb99bbb1e46dc95c309663d05e27e781ce5db1247a65b171dd33", func := "loop.example/g01394/laws.FnExactBlanksOf", spec := "fnExactBlanksOf", apart := false, narrowed := true }
def FnExactBlanksOfUptoSaid : Prop := fnExactBlanksOfUptoRow.holds Try.pinned (OpenSpec.upto fnExactBlanksOfSpec)

/-- 'laws.FnExactFirstVolumes', WHERE WHAT IT READS IS OF BULK AT MOST 1048576: true; the input reads as it did. -/
def fnExactFirstVolumesUptoRow : OpenClaim := { program := "ytmckakhdipjneaa", sum := "54b54053069fcb99bbb1e46dc95c309663d05e27e781ce5db1247a65b171dd33", func := "loop.example/g01394/laws.FnExactFirstVolumes", spec := "fnExactFirstVolumes", recurses := true, apart := false, narrowed := true }
def FnExactFirstVolumesUptoSaid : Prop := fnExactFirstVolumesUptoRow.holds Try.pinned (OpenSpec.upto fnExactFirstVolumesSpec)

end Rows
end Go.Proofs.Ytmckakhdipjneaa
