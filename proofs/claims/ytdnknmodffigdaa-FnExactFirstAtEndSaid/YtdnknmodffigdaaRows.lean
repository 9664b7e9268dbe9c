/-
  No cell of these rows narrows 'for every input' (looked for: loops, veiled, ifaces, maps, wideKeys, modest, calm, conditions, laid).
  DERIVED. THE GIVEN ROWS OF THIS SEAT. 12 by the template 'for every input the law returns true; each argument reads behind the call as it read before'; 0 by the template 'total and deterministic' (their statements: YtdnknmodffigdaaTotals.lean).
  GIVEN WITH THE SEED: the statements are not yours to turn. If you find one false, say at which input.
  Laid BY PROGRAM, IN A SANDBOX (cutbox-rows.mjs): the forced cells as the released guide's own fill.sh prints them over the translation f108cd3459b81938… (all of the seat's roots in one cut). By AI agents, Wed Nov 11 2026. No macro, syntax, notation, axiom, sorry.
-/
import Derived.Test.YtdnknmodffigdaaChecked
import GoSem.Claim
import GoSem.ClaimJoined
import GoSem.ClaimMapViews
import Derived.JoinedTies
import Derived.KernelRfl
namespace Go.Proofs.Ytdnknmodffigdaa
/- THE CELL 'sum', in the pinned program and in every row, IS THE sha256 OF THE DUMP (.gsa) THAT YtdnknmodffigdaaProg.lean LOADS. Nothing in Lean hashes anything: it is a label: what it is worth is what the hold of that sum in a sandbox is worth. -/
noncomputable def Try.pinned : Pinned := { name := "ytdnknmodffigdaa", sum := "f108cd3459b819389724d81019473d3141f18d30a7c6df4437af510a0b707bc8", checked := Try.checked }
namespace Rows
def none {H : Type} : Left H := { results := [], args := [] }

/-- 'laws.FnExactReadOn': WHATEVER THE INPUT: true; the input reads as it did. -/
def fnExactReadOnSpec : ChangeSpec := { name := "fnExactReadOn", fn := fun _ => fun
  | [d1, d2] => { results := [.lit (.bool true)], args := [d1, d2] }
  | _ => none }
def fnExactReadOnRow : OpenClaim := { program := "ytdnknmodffigdaa", sum := "f108cd3459b819389724d81019473d3141f18d30a7c6df4437af510a0b707bc8", func := "loop.example/g01394/laws.FnExactReadOn", spec := "fnExactReadOn", unfollowed := true, recurses := true, apart := false }
def FnExactReadOnSaid : Prop := fnExactReadOnRow.holds Try.pinned (OpenSpec.ofChange fnExactReadOnSpec)

/-- ITS FALSE NEIGHBOUR: 'it returns false'. Refute it at one input. -/
def fnExactReadOnWrong : ChangeSpec := { name := "fnExactReadOn", fn := fun _ => fun
  | [d1, d2] => { results := [.lit (.bool false)], args := [d1, d2] }
  | _ => none }
def FnExactReadOnWrongFalsely : Prop := fnExactReadOnRow.holds Try.pinned (OpenSpec.ofChange fnExactReadOnWrong)

/-- 'laws.FnExactAheadOn': WHATEVER THE INPUT: true; the input reads as it did. -/
def fnExactAheadOnSpec : ChangeSpec := { name := "fnExactAheadOn", fn := fun _ => fun
  | [d1, d2, d3] => { results := [.lit (.bool true)], args := [d1, d2, d3] }
  | _ => none }
def fnExactAheadOnRow : OpenClaim := { program := "ytdnknmodffigdaa", sum := "f108cd3459b819389724d81019473d3141f18d30a7c6df4437af510a0b707bc8", func := "loop.example/g01394/laws.FnExactAheadOn", spec := "fnExactAheadOn", unfollowed := true, recurses := true, apart := false }
def FnExactAheadOnSaid : Prop := fnExactAheadOnRow.holds Try.pinned (OpenSpec.ofChange fnExactAheadOnSpec)

/-- ITS FALSE NEIGHBOUR: 'it returns false'. Refute it at one input. -/
def fnExactAheadOnWrong : ChangeSpec := { name := "fnExactAheadOn", fn := fun _ => fun
  | [d1, d2, d3] => { results := [.lit (.bool false)], args := [d1, d2, d3] }
  | _ => none }
def FnExactAheadOnWrongFalsely : Prop := fnExactAheadOnRow.holds Try.pinned (OpenSpec.ofChange fnExactAheadOnWrong)

/-- 'laws.FnExactPartPlan': WHATEVER THE INPUT: true; the input reads as it did. -/
def fnExactPartPlanSpec : ChangeSpec := { name := "fnExactPartPlan", fn := fun _ => fun
  | [d1, d2, d3] => { results := [.lit (.bool true)], args := [d1, d2, d3] }
  | _ => none }
def fnExactPartPlanRow : OpenClaim := { program := "ytdnknmodffigdaa", sum := "f108cd3459b819389724d81019473d3141f18d30a7c6df4437af510a0b707bc8", func := "loop.example/g01394/laws.FnExactPartPlan", spec := "fnExactPartPlan", apart := false }
def FnExactPartPlanSaid : Prop := fnExactPartPlanRow.holds Try.pinned (OpenSpec.ofChange fnExactPartPlanSpec)

/-- ITS FALSE NEIGHBOUR: 'it returns false'. Refute it at one input. -/
def fnExactPartPlanWrong : ChangeSpec := { name := "fnExactPartPlan", fn := fun _ => fun
  | [d1, d2, d3] => { results := [.lit (.bool false)], args := [d1, d2, d3] }
  | _ => none }
def FnExactPartPlanWrongFalsely : Prop := fnExactPartPlanRow.holds Try.pinned (OpenSpec.ofChange fnExactPartPlanWrong)

/-- 'laws.FnExactEvenPlan': WHATEVER THE INPUT: true; the input reads as it did. -/
def fnExactEvenPlanSpec : ChangeSpec := { name := "fnExactEvenPlan", fn := fun _ => fun
  | [d1, d2, d3] => { results := [.lit (.bool true)], args := [d1, d2, d3] }
  | _ => none }
def fnExactEvenPlanRow : OpenClaim := { program := "ytdnknmodffigdaa", sum := "f108cd3459b819389724d81019473d3141f18d30a7c6df4437af510a0b707bc8", func := "loop.example/g01394/laws.FnExactEvenPlan", spec := "fnExactEvenPlan", apart := false }
def FnExactEvenPlanSaid : Prop := fnExactEvenPlanRow.holds Try.pinned (OpenSpec.ofChange fnExactEvenPlanSpec)

/-- ITS FALSE NEIGHBOUR: 'it returns false'. Refute it at one input. -/
def fnExactEvenPlanWrong : ChangeSpec := { name := "fnExactEvenPlan", fn := fun _ => fun
  | [d1, d2, d3] => { results := [.lit (.bool false)], args := [d1, d2, d3] }
  | _ => none }
def FnExactEvenPlanWrongFalsely : Prop := fnExactEvenPlanRow.holds Try.pinned (OpenSpec.ofChange fnExactEvenPlanWrong)

/-- 'laws.FnExactRisingPlan': WHATEVER THE INPUT: true; the input reads as it did. -/
def fnExactRisingPlanSpec : ChangeSpec := { name := "fnExactRisingPlan", fn := fun _ => fun
  | [d1, d2, d3] => { results := [.lit (.bool true)], args := [d1, d2, d3] }
  | _ => none }
def fnExactRisingPlanRow : OpenClaim := { program := "ytdnknmodffigdaa", sum := "f108cd3459b819389724d81019473d3141f18d30a7c6df4437af510a0b707bc8", func := "loop.example/g01394/laws.FnExactRisingPlan", spec := "fnExactRisingPlan", apart := false }
def FnExactRisingPlanSaid : Prop := fnExactRisingPlanRow.holds Try.pinned (OpenSpec.ofChange fnExactRisingPlanSpec)

/-- ITS FALSE NEIGHBOUR: 'it returns false'. Refute it at one input. -/
def fnExactRisingPlanWrong : ChangeSpec := { name := "fnExactRisingPlan", fn := fun _ => fun
  | [d1, d2, d3] => { results := [.lit (.bool false)], args := [d1, d2, d3] }
  | _ => none }
def FnExactRisingPlanWrongFalsely : Prop := fnExactRisingPlanRow.holds Try.pinned (OpenSpec.ofChange fnExactRisingPlanWrong)

/-- 'laws.FnExactDayOfPage': WHATEVER THE INPUT: true; the input reads as it did. -/
def fnExactDayOfPageSpec : ChangeSpec := { name := "fnExactDayOfPage", fn := fun _ => fun
  | [d1, d2] => { results := [.lit (.bool true)], args := [d1, d2] }
  | _ => none }
def fnExactDayOfPageRow : OpenClaim := { program := "ytdnknmodffigdaa", sum := "f108cd3459b819389724d81019473d3141f18d30a7c6df4437af510a0b707bc8", func := "loop.example/g01394/laws.FnExactDayOfPage", spec := "fnExactDayOfPage", unfollowed := true, recurses := true, apart := false }
def FnExactDayOfPageSaid : Prop := fnExactDayOfPageRow.holds Try.pinned (OpenSpec.ofChange fnExactDayOfPageSpec)

/-- ITS FALSE NEIGHBOUR: 'it returns false'. Refute it at one input. -/
def fnExactDayOfPageWrong : ChangeSpec := { name := "fnExactDayOfPage", fn := fun _ => fun
  | [d1, d2] => { results := [.lit (.bool false)], args := [d1, d2] }
  | _ => none }
def FnExactDayOfPageWrongFalsely : Prop := fnExactDayOfPageRow.holds Try.pinned (OpenSpec.ofChange fnExactDayOfPageWrong)

/-- 'laws.FnExactMarkAfter': WHATEVER THE INPUT: true; the input reads as it did. -/
def fnExactMarkAfterSpec : ChangeSpec := { name := "fnExactMarkAfter", fn := fun _ => fun
  | [d1, d2, d3] => { results := [.lit (.bool true)], args := [d1, d2, d3] }
  | _ => none }
def fnExactMarkAfterRow : OpenClaim := { program := "ytdnknmodffigdaa", sum := "f108cd3459b819389724d81019473d3141f18d30a7c6df4437af510a0b707bc8", func := "loop.example/g01394/laws.FnExactMarkAfter", spec := "fnExactMarkAfter", unfollowed := true, recurses := true, apart := false }
def FnExactMarkAfterSaid : Prop := fnExactMarkAfterRow.holds Try.pinned (OpenSpec.ofChange fnExactMarkAfterSpec)

/-- ITS FALSE NEIGHBOUR: 'it returns false'. Refute it at one input. -/
def fnExactMarkAfterWrong : ChangeSpec := { name := "fnExactMarkAfter", fn := fun _ => fun
  | [d1, d2, d3] => { results := [.lit (.bool false)], args := [d1, d2, d3] }
  | _ => none }
def FnExactMarkAfterWrongFalsely : Prop := fnExactMarkAfterRow.holds Try.pinned (OpenSpec.ofChange fnExactMarkAfterWrong)

/-- 'laws.FnExactMeet': WHATEVER THE INPUT: true; the input reads as it did. -/
def fnExactMeetSpec : ChangeSpec := { name := "fnExactMeet", fn := fun _ => fun
  | [d1, d2, d3] => { results := [.lit (.bool true)], args := [d1, d2, d3] }
  | _ => none }
def fnExactMeetRow : OpenClaim := { program := "ytdnknmodffigdaa", sum := "f108cd3459b819389724d81019473d3141f18d30a7c6df4437af510a0b707bc8", func := "loop.example/g01394/laws.FnExactMeet", spec := "fnExactMeet", unfollowed := true, recurses := true, apart := false }
def FnExactMeetSaid : Prop := fnExactMeetRow.holds Try.pinned (OpenSpec.ofChange fnExactMeetSpec)

/-- ITS FALSE NEIGHBOUR: 'it returns false'. Refute it at one input. -/
def fnExactMeetWrong : ChangeSpec := { name := "fnExactMeet", fn := fun _ => fun
  | [d1, d2, d3] => { results := [.lit (.bool false)], args := [d1, d2, d3] }
  | _ => none }
def FnExactMeetWrongFalsely : Prop := fnExactMeetRow.holds Try.pinned (OpenSpec.ofChange fnExactMeetWrong)

/-- 'laws.FnExactDaysToEnd': WHATEVER THE INPUT: true; the input reads as it did. -/
def fnExactDaysToEndSpec : ChangeSpec := { name := "fnExactDaysToEnd", fn := fun _ => fun
  | [d1, d2] => { results := [.lit (.bool true)], args := [d1, d2] }
  | _ => none }
def fnExactDaysToEndRow : OpenClaim := { program := "ytdnknmodffigdaa", sum := "f108cd3459b819389724d81019473d3141f18d30a7c6df4437af510a0b707bc8", func := "loop.example/g01394/laws.FnExactDaysToEnd", spec := "fnExactDaysToEnd", unfollowed := true, recurses := true, apart := false }
def FnExactDaysToEndSaid : Prop := fnExactDaysToEndRow.holds Try.pinned (OpenSpec.ofChange fnExactDaysToEndSpec)

/-- ITS FALSE NEIGHBOUR: 'it returns false'. Refute it at one input. -/
def fnExactDaysToEndWrong : ChangeSpec := { name := "fnExactDaysToEnd", fn := fun _ => fun
  | [d1, d2] => { results := [.lit (.bool false)], args := [d1, d2] }
  | _ => none }
def FnExactDaysToEndWrongFalsely : Prop := fnExactDaysToEndRow.holds Try.pinned (OpenSpec.ofChange fnExactDaysToEndWrong)

/-- 'laws.FnExactTogetherPages': WHATEVER THE INPUT: true; the input reads as it did. -/
def fnExactTogetherPagesSpec : ChangeSpec := { name := "fnExactTogetherPages", fn := fun _ => fun
  | [d1, d2] => { results := [.lit (.bool true)], args := [d1, d2] }
  | _ => none }
def fnExactTogetherPagesRow : OpenClaim := { program := "ytdnknmodffigdaa", sum := "f108cd3459b819389724d81019473d3141f18d30a7c6df4437af510a0b707bc8", func := "loop.example/g01394/laws.FnExactTogetherPages", spec := "fnExactTogetherPages", unfollowed := true, recurses := true, apart := false }
def FnExactTogetherPagesSaid : Prop := fnExactTogetherPagesRow.holds Try.pinned (OpenSpec.ofChange fnExactTogetherPagesSpec)

/-- ITS FALSE NEIGHBOUR: 'it returns false'. Refute it at one input. -/
def fnExactTogetherPagesWrong : ChangeSpec := { name := "fnExactTogetherPages", fn := fun _ => fun
  | [d1, d2] => { results := [.lit (.bool false)], args := [d1, d2] }
  | _ => none }
def FnExactTogetherPagesWrongFalsely : Prop := fnExactTogetherPagesRow.holds Try.pinned (OpenSpec.ofChange fnExactTogetherPagesWrong)

/-- 'laws.FnExactAfterParts': WHATEVER THE INPUT: true; the input reads as it did. -/
def fnExactAfterPartsSpec : ChangeSpec := { name := "fnExactAfterParts", fn := fun _ => fun
  | [d1, d2, d3] => { results := [.lit (.bool true)], args := [d1, d2, d3] }
  | _ => none }
def fnExactAfterPartsRow : OpenClaim := { program := "ytdnknmodffigdaa", sum := "f108cd3459b819389724d81019473d3141f18d30a7c6df4437af510a0b707bc8", func := "loop.example/g01394/laws.FnExactAfterParts", spec := "fnExactAfterParts", apart := false }
def FnExactAfterPartsSaid : Prop := fnExactAfterPartsRow.holds Try.pinned (OpenSpec.ofChange fnExactAfterPartsSpec)

/-- ITS FALSE NEIGHBOUR: 'it returns false'. Refute it at one input. -/
def fnExactAfterPartsWrong : ChangeSpec := { name := "fnExactAfterParts", fn := fun _ => fun
  | [d1, d2, d3] => { results := [.lit (.bool false)], args := [d1, d2, d3] }
  | _ => none }
def FnExactAfterPartsWrongFalsely : Prop := fnExactAfterPartsRow.holds Try.pinned (OpenSpec.ofChange fnExactAfterPartsWrong)

/-- 'laws.FnExactFirstAtEnd': WHATEVER THE INPUT: true; the input reads as it did. -/
def fnExactFirstAtEndSpec : ChangeSpec := { name := "fnExactFirstAtEnd", fn := fun _ => fun
  | [d1, d2] => { results := [.lit (.bool true)], args := [d1, d2] }
  | _ => none }
def fnExactFirstAtEndRow : OpenClaim := { program := "ytdnknmodffigdaa", sum := "f108cd3459b819389724d81019473d3141f18d30a7c6df4437af510a0b707bc8", func := "loop.example/g01394/laws.FnExactFirstAtEnd", spec := "fnExactFirstAtEnd", unfollowed := true, recurses := true, apart := false }
def FnExactFirstAtEndSaid : Prop := fnExactFirstAtEndRow.holds Try.pinned (OpenSpec.ofChange fnExactFirstAtEndSpec)

/-- ITS FALSE NEIGHBOUR: 'it returns false'. Refute it at one input. -/
def fnExactFirstAtEndWrong : ChangeSpec := { name := "fnExactFirstAtEnd", fn := fun _ => fun
  | [d1, d2] => { results := [.lit (.bool false)], args := [d1, d2] }
  | _ => none }
def FnExactFirstAtEndWrongFalsely : Prop := fnExactFirstAtEndRow.holds Try.pinned (OpenSpec.ofChange fnExactFirstAtEndWrong)

/- THE SECOND FORM. 'bulk': how many values and letters a reading holds, each counted each time it is reached (what is shared counts as often as it is met; a slice's spare places count too). A statement '..UptoSaid' is the law's where the arguments, and the package variables that the reading takes, are together of bulk at most 1048576: NARROWER than '..Said'. Prove '..Said' where nothing that the law and all that it calls make is longer than what came in: it says more and counts as full. Else prove '..UptoSaid'. A law counts once. -/
mutual
def uptoBulk {H : Type} : DataW H → Nat
  | .lit (.string bytes) => bytes.length + 1
  | .lit _ => 1
  | .nil => 1
  | .ptr d => uptoBulk d + 1
  | .slice elems spare => uptoBulkAll elems + uptoBulkAll spare + 1
  | .agg parts => uptoBulkAll parts + 1
  | .iface _ d => uptoBulk d + 1
  | .map entries => uptoBulkEntries entries + 1
  | .held _ => 1
def uptoBulkAll {H : Type} : List (DataW H) → Nat
  | [] => 0
  | d :: r => uptoBulk d + uptoBulkAll r
def uptoBulkEntries {H : Type} : List (Lit × DataW H) → Nat
  | [] => 0
  | x :: r => uptoBulkEntry x + uptoBulkEntries r
def uptoBulkEntry {H : Type} : Lit × DataW H → Nat
  | (.string bytes, d) => bytes.length + uptoBulk d + 1
  | (_, d) => uptoBulk d + 1
 end
def uptoSmall : (H : Type) → List (DataW H) → Bool := fun _ ds => decide (uptoBulkAll ds ≤ 1048576)
def OpenSpec.upto (s : _root_.Go.ChangeSpec) : _root_.Go.OpenSpec := { _root_.Go.OpenSpec.ofChange s with cond := some uptoSmall }

/-- 'laws.FnExactReadOn', WHERE WHAT IT READS IS OF BULK AT MOST 1048576: true; the input reads as it did. -/
def fnExactReadOnUptoRow : OpenClaim := { program := "ytdnknmodffigdaa", sum := "f108cd3459b819389724d81019473d3141f18d30a7c6df4437af510a0b707bc8", func := "loop.example/g01394/laws.FnExactReadOn", spec := "fnExactReadOn", unfollowed := true, recurses := true, apart := false, narrowed := true }
def FnExactReadOnUptoSaid : Prop := fnExactReadOnUptoRow.holds Try.pinned (OpenSpec.upto fnExactReadOnSpec)

/-- 'laws.FnExactAheadOn', WHERE WHAT IT READS IS OF BULK AT MOST 1048576: true; the input reads as it did. -/
def fnExactAheadOnUptoRow : OpenClaim := { program := "ytdnknmodffigdaa", sum := "f108cd3459b819389724d81019473d3141f18d30a7c6df4437af510a0b707bc8", func := "loop.example/g01394/laws.FnExactAheadOn", spec := "fnExactAheadOn", unfollowed := true, recurses := true, apart := false, narrowed := true }
def FnExactAheadOnUptoSaid : Prop := fnExactAheadOnUptoRow.holds Try.pinned (OpenSpec.upto fnExactAheadOnSpec)

/-- 'laws.FnExactPartPlan', WHERE WHAT IT READS IS OF BULK AT MOST 1048576: true; the input reads as it did. -/
def fnExactPartPlanUptoRow : OpenClaim := { program := "ytdnknmodffigdaa", sum := "f108cd3459b819389724d81019473d3141f18d30a7c6df4437af510a0b707bc8", func := "loop.example/g01394/laws.FnExactPartPlan", spec := "fnExactPartPlan", apart := false, narrowed := true }
def FnExactPartPlanUptoSaid : Prop := fnExactPartPlanUptoRow.holds Try.pinned (OpenSpec.upto fnExactPartPlanSpec)

/-- 'laws.FnExactEvenPlan', WHERE WHAT IT READS IS OF BULK AT MOST 1048576: true; the input reads as it did. -/
def fnExactEvenPlanUptoRow : OpenClaim := { program := "ytdnknmodffigdaa", sum := "f108cd3459b819389724d81019473d3141f18d30a7c6df4437af510a0b707bc8", func := "loop.example/g01394/laws.FnExactEvenPlan", spec := "fnExactEvenPlan", apart := false, narrowed := true }
def FnExactEvenPlanUptoSaid : Prop := fnExactEvenPlanUptoRow.holds Try.pinned (OpenSpec.upto fnExactEvenPlanSpec)

/-- 'laws.FnExactRisingPlan', WHERE WHAT IT READS IS OF BULK AT MOST 1048576: true; the input reads as it did. -/
def fnExactRisingPlanUptoRow : OpenClaim := { program := "ytdnknmodffigdaa", sum := "f108cd3459b819389724d81019473d3141f18d30a7c6df4437af510a0b707bc8", func := "loop.example/g01394/laws.FnExactRisingPlan", spec := "fnExactRisingPlan", apart := false, narrowed := true }
def FnExactRisingPlanUptoSaid : Prop := fnExactRisingPlanUptoRow.holds Try.pinned (OpenSpec.upto fnExactRisingPlanSpec)

/-- 'laws.FnExactDayOfPage', WHERE WHAT IT READS IS OF BULK AT MOST 1048576: true; the input reads as it did. -/
def fnExactDayOfPageUptoRow : OpenClaim := { program := "ytdnknmodffigdaa", sum := "f108cd3459b819389724d81019473d3141f18d30a7c6df4437af510a0b707bc8", func := "loop.example/g01394/laws.FnExactDayOfPage", spec := "fnExactDayOfPage", unfollowed := true, recurses := true, apart := false, narrowed := true }
def FnExactDayOfPageUptoSaid : Prop := fnExactDayOfPageUptoRow.holds Try.pinned (OpenSpec.upto fnExactDayOfPageSpec)

/-- 'laws.FnExactMarkAfter', WHERE WHAT IT READS IS OF BULK AT MOST 1048576: true; the input reads as it did. -/
def fnExactMarkAfterUptoRow : OpenClaim := { program := "ytdnknmodffigdaa", sum := "f108cd3459b819389724d81019473d3141f18d30a7c6df4437af510a0b707bc8", func := "loop.example/g01394/laws.FnExactMarkAfter", spec := "fnExactMarkAfter", unfollowed := true, recurses := true, apart := false, narrowed := true }
def FnExactMarkAfterUptoSaid : Prop := fnExactMarkAfterUptoRow.holds Try.pinned (OpenSpec.upto fnExactMarkAfterSpec)

/-- 'laws.FnExactMeet', WHERE WHAT IT READS IS OF BULK AT MOST 1048576: true; the input reads as it did. -/
def fnExactMeetUptoRow : OpenClaim := { program := "ytdnknmodffigdaa", sum := "f108cd3459b819389724d81019473d3141f18d30a7c6df4437af510a0b707bc8", func := "loop.example/g01394/laws.FnExactMeet", spec := "fnExactMeet", unfollowed := true, recurses := true, apart := false, narrowed := true }
def FnExactMeetUptoSaid : Prop := fnExactMeetUptoRow.holds Try.pinned (OpenSpec.upto fnExactMeetSpec)

/-- 'laws.FnExactDaysToEnd', WHERE WHAT IT READS IS OF BULK AT MOST 1048576: true; the input reads as it did. -/
def fnExactDaysToEndUptoRow : OpenClaim := { program := "ytdnknmodffigdaa", sum := "f108cd3459b819389724d81019473d3141f18d30a7c6df4437af510a0b707bc8", func := "loop.example/g01394/laws.FnExactDaysToEnd", spec := "fnExactDaysToEnd", unfollowed := true, recurses := true, apart := false, narrowed := true }
def FnExactDaysToEndUptoSaid : Prop := fnExactDaysToEndUptoRow.holds Try.pinned (OpenSpec.upto fnExactDaysToEndSpec)

/-- 'laws.FnExactTogetherPages', WHERE WHAT IT READS IS OF BULK AT MOST 1048576: true; the input reads as it did. -/
def fnExactTogetherPagesUptoRow : OpenClaim := { program := "ytdnknmodffigdaa", sum := "f108cd3459b819389724d81019473d3141f18d30a7c6df4437af510a0b707bc8", func := "loop.example/g01394/laws.FnExactTogetherPages", spec := "fnExactTogetherPages", unfollowed := true, recurses := true, apart := false, narrowed := true }
def FnExactTogetherPagesUptoSaid : Prop := fnExactTogetherPagesUptoRow.holds Try.pinned (OpenSpec.upto fnExactTogetherPagesSpec)

/-- 'laws.FnExactAfterParts', WHERE WHAT IT READS IS OF BULK AT MOST 1048576: true; the input reads as it did. -/
def fnExactAfterPartsUptoRow : OpenClaim := { program := "ytdnknmodffigdaa", sum := "f108cd3459b819389724d81019473d3141f18d30a7c6df4437af510a0b707bc8", func := "loop.example/g01394/laws.FnExactAfterParts", spec := "fnExactAfterParts", apart := false, narrowed := true }
def FnExactAfterPartsUptoSaid : Prop := fnExactAfterPartsUptoRow.holds Try.pinned (OpenSpec.upto fnExactAfterPartsSpec)

/-- 'laws.FnExactFirstAtEnd', WHERE WHAT IT READS IS OF BULK AT MOST 1048576: true; the input reads as it did. -/
def fnExactFirstAtEndUptoRow : OpenClaim := { program := "ytdnknmodffigdaa", sum := "f108cd3459b819389724d81019473d3141f18d30a7c6df4437af510a0b707bc8", func := "loop.example/g01394/laws.FnExactFirstAtEnd", spec := "fnExactFirstAtEnd", unfollowed := true, recurses := true, apart := false, narrowed := true }
def FnExactFirstAtEndUptoSaid : Prop := fnExactFirstAtEndUptoRow.holds Try.pinned (OpenSpec.upto fnExactFirstAtEndSpec)

end Rows
end Go.Proofs.Ytdnknmodffigdaa
