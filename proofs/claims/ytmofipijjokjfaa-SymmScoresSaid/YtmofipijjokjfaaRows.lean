/-
  No cell of these rows narrows 'for every input' (looked for: loops, veiled, ifaces, maps, wideKeys, modest, calm, conditions, laid).
  DERIVED. THE GIVEN ROWS OF THIS SEAT. 12 by the template 'for every input the law returns true; each argument reads behind the call as it read before'; 0 by the template 'total and deterministic' (their statements: YtmofipijjokjfaaTotals.lean).
  GIVEN WITH THE SEED: the statements are not yours to turn. If you find one false, say at which input.
  Laid BY PROGRAM, IN A SANDBOX (cutbox-rows.mjs): the forced cells as the released guide's own fill.sh prints them over the translation 21a6e51114a1dcae… (all of the seat's roots in one cut). By AI agents, Wed Nov 11 2026. No macro, syntax, notation, axiom, sorry.
-/
import Derived.Test.YtmofipijjokjfaaChecked
import GoSem.Claim
import GoSem.ClaimJoined
import GoSem.ClaimMapViews
import Derived.JoinedTies
import Derived.KernelRfl
namespace Go.Proofs.Ytmofipijjokjfaa
/- THE CELL 'sum', in the pinned program and in every row, IS THE sha256 OF THE DUMP (.gsa) THAT YtmofipijjokjfaaProg.lean LOADS. Nothing in Lean hashes anything: it is a label: what it is worth is what the hold of that sum in a sandbox is worth. -/
noncomputable def Try.pinned : Pinned := { name := "ytmofipijjokjfaa", sum := "21a6e51114a1dcae7920de99fc9e69dc86ce7942e0f0c3288183b268ae23a49f", checked := Try.checked }
namespace Rows
def none {H : Type} : Left H := { results := [], args := [] }

/-- 'gamehallkeep1.PerftAfter': WHATEVER THE INPUT: true; the input reads as it did. -/
def perftAfterSpec : ChangeSpec := { name := "perftAfter", fn := fun _ => fun
  | [d1, d2, d3, d4] => { results := [.lit (.bool true)], args := [d1, d2, d3, d4] }
  | _ => none }
def perftAfterRow : OpenClaim := { program := "ytmofipijjokjfaa", sum := "21a6e51114a1dcae7920de99fc9e69dc86ce7942e0f0c3288183b268ae23a49f", func := "gamehall/gamehallkeep1.PerftAfter", spec := "perftAfter", unfollowed := true, recurses := true, apart := false }
def PerftAfterSaid : Prop := perftAfterRow.holds Try.pinned (OpenSpec.ofChange perftAfterSpec)

/-- ITS FALSE NEIGHBOUR: 'it returns false'. Refute it at one input. -/
def perftAfterWrong : ChangeSpec := { name := "perftAfter", fn := fun _ => fun
  | [d1, d2, d3, d4] => { results := [.lit (.bool false)], args := [d1, d2, d3, d4] }
  | _ => none }
def PerftAfterWrongFalsely : Prop := perftAfterRow.holds Try.pinned (OpenSpec.ofChange perftAfterWrong)

/-- 'gamehallkeep1.WindowSaves': WHATEVER THE INPUT: true; the input reads as it did. -/
def windowSavesSpec : ChangeSpec := { name := "windowSaves", fn := fun _ => fun
  | [d1, d2, d3, d4] => { results := [.lit (.bool true)], args := [d1, d2, d3, d4] }
  | _ => none }
def windowSavesRow : OpenClaim := { program := "ytmofipijjokjfaa", sum := "21a6e51114a1dcae7920de99fc9e69dc86ce7942e0f0c3288183b268ae23a49f", func := "gamehall/gamehallkeep1.WindowSaves", spec := "windowSaves", unfollowed := true, recurses := true, apart := false }
def WindowSavesSaid : Prop := windowSavesRow.holds Try.pinned (OpenSpec.ofChange windowSavesSpec)

/-- ITS FALSE NEIGHBOUR: 'it returns false'. Refute it at one input. -/
def windowSavesWrong : ChangeSpec := { name := "windowSaves", fn := fun _ => fun
  | [d1, d2, d3, d4] => { results := [.lit (.bool false)], args := [d1, d2, d3, d4] }
  | _ => none }
def WindowSavesWrongFalsely : Prop := windowSavesRow.holds Try.pinned (OpenSpec.ofChange windowSavesWrong)

/-- 'gamehallkeep1.WindowReaches': WHATEVER THE INPUT: true; the input reads as it did. -/
def windowReachesSpec : ChangeSpec := { name := "windowReaches", fn := fun _ => fun
  | [d1, d2, d3, d4] => { results := [.lit (.bool true)], args := [d1, d2, d3, d4] }
  | _ => none }
def windowReachesRow : OpenClaim := { program := "ytmofipijjokjfaa", sum := "21a6e51114a1dcae7920de99fc9e69dc86ce7942e0f0c3288183b268ae23a49f", func := "gamehall/gamehallkeep1.WindowReaches", spec := "windowReaches", unfollowed := true, recurses := true, apart := false }
def WindowReachesSaid : Prop := windowReachesRow.holds Try.pinned (OpenSpec.ofChange windowReachesSpec)

/-- ITS FALSE NEIGHBOUR: 'it returns false'. Refute it at one input. -/
def windowReachesWrong : ChangeSpec := { name := "windowReaches", fn := fun _ => fun
  | [d1, d2, d3, d4] => { results := [.lit (.bool false)], args := [d1, d2, d3, d4] }
  | _ => none }
def WindowReachesWrongFalsely : Prop := windowReachesRow.holds Try.pinned (OpenSpec.ofChange windowReachesWrong)

/-- 'gamehallkeep1.WindowParts': WHATEVER THE INPUT: true; the input reads as it did. -/
def windowPartsSpec : ChangeSpec := { name := "windowParts", fn := fun _ => fun
  | [d1, d2, d3, d4] => { results := [.lit (.bool true)], args := [d1, d2, d3, d4] }
  | _ => none }
def windowPartsRow : OpenClaim := { program := "ytmofipijjokjfaa", sum := "21a6e51114a1dcae7920de99fc9e69dc86ce7942e0f0c3288183b268ae23a49f", func := "gamehall/gamehallkeep1.WindowParts", spec := "windowParts", unfollowed := true, recurses := true, apart := false }
def WindowPartsSaid : Prop := windowPartsRow.holds Try.pinned (OpenSpec.ofChange windowPartsSpec)

/-- ITS FALSE NEIGHBOUR: 'it returns false'. Refute it at one input. -/
def windowPartsWrong : ChangeSpec := { name := "windowParts", fn := fun _ => fun
  | [d1, d2, d3, d4] => { results := [.lit (.bool false)], args := [d1, d2, d3, d4] }
  | _ => none }
def WindowPartsWrongFalsely : Prop := windowPartsRow.holds Try.pinned (OpenSpec.ofChange windowPartsWrong)

/-- 'gamehallkeep1.MinimaxBounds': WHATEVER THE INPUT: true; the input reads as it did. -/
def minimaxBoundsSpec : ChangeSpec := { name := "minimaxBounds", fn := fun _ => fun
  | [d1, d2, d3] => { results := [.lit (.bool true)], args := [d1, d2, d3] }
  | _ => none }
def minimaxBoundsRow : OpenClaim := { program := "ytmofipijjokjfaa", sum := "21a6e51114a1dcae7920de99fc9e69dc86ce7942e0f0c3288183b268ae23a49f", func := "gamehall/gamehallkeep1.MinimaxBounds", spec := "minimaxBounds", unfollowed := true, recurses := true, apart := false }
def MinimaxBoundsSaid : Prop := minimaxBoundsRow.holds Try.pinned (OpenSpec.ofChange minimaxBoundsSpec)

/-- ITS FALSE NEIGHBOUR: 'it returns false'. Refute it at one input. -/
def minimaxBoundsWrong : ChangeSpec := { name := "minimaxBounds", fn := fun _ => fun
  | [d1, d2, d3] => { results := [.lit (.bool false)], args := [d1, d2, d3] }
  | _ => none }
def MinimaxBoundsWrongFalsely : Prop := minimaxBoundsRow.holds Try.pinned (OpenSpec.ofChange minimaxBoundsWrong)

/-- 'gamehallkeep1.MinimaxDeeper': WHATEVER THE INPUT: true; the input reads as it did. -/
def minimaxDeeperSpec : ChangeSpec := { name := "minimaxDeeper", fn := fun _ => fun
  | [d1, d2, d3, d4] => { results := [.lit (.bool true)], args := [d1, d2, d3, d4] }
  | _ => none }
def minimaxDeeperRow : OpenClaim := { program := "ytmofipijjokjfaa", sum := "21a6e51114a1dcae7920de99fc9e69dc86ce7942e0f0c3288183b268ae23a49f", func := "gamehall/gamehallkeep1.MinimaxDeeper", spec := "minimaxDeeper", unfollowed := true, recurses := true, apart := false }
def MinimaxDeeperSaid : Prop := minimaxDeeperRow.holds Try.pinned (OpenSpec.ofChange minimaxDeeperSpec)

/-- ITS FALSE NEIGHBOUR: 'it returns false'. Refute it at one input. -/
def minimaxDeeperWrong : ChangeSpec := { name := "minimaxDeeper", fn := fun _ => fun
  | [d1, d2, d3, d4] => { results := [.lit (.bool false)], args := [d1, d2, d3, d4] }
  | _ => none }
def MinimaxDeeperWrongFalsely : Prop := minimaxDeeperRow.holds Try.pinned (OpenSpec.ofChange minimaxDeeperWrong)

/-- 'gamehallkeep1.MinimaxLines': WHATEVER THE INPUT: true; the input reads as it did. -/
def minimaxLinesSpec : ChangeSpec := { name := "minimaxLines", fn := fun _ => fun
  | [d1, d2, d3] => { results := [.lit (.bool true)], args := [d1, d2, d3] }
  | _ => none }
def minimaxLinesRow : OpenClaim := { program := "ytmofipijjokjfaa", sum := "21a6e51114a1dcae7920de99fc9e69dc86ce7942e0f0c3288183b268ae23a49f", func := "gamehall/gamehallkeep1.MinimaxLines", spec := "minimaxLines", unfollowed := true, recurses := true, apart := false }
def MinimaxLinesSaid : Prop := minimaxLinesRow.holds Try.pinned (OpenSpec.ofChange minimaxLinesSpec)

/-- ITS FALSE NEIGHBOUR: 'it returns false'. Refute it at one input. -/
def minimaxLinesWrong : ChangeSpec := { name := "minimaxLines", fn := fun _ => fun
  | [d1, d2, d3] => { results := [.lit (.bool false)], args := [d1, d2, d3] }
  | _ => none }
def MinimaxLinesWrongFalsely : Prop := minimaxLinesRow.holds Try.pinned (OpenSpec.ofChange minimaxLinesWrong)

/-- 'gamehallkeep1.MinimaxWins': WHATEVER THE INPUT: true; the input reads as it did. -/
def minimaxWinsSpec : ChangeSpec := { name := "minimaxWins", fn := fun _ => fun
  | [d1, d2, d3] => { results := [.lit (.bool true)], args := [d1, d2, d3] }
  | _ => none }
def minimaxWinsRow : OpenClaim := { program := "ytmofipijjokjfaa", sum := "21a6e51114a1dcae7920de99fc9e69dc86ce7942e0f0c3288183b268ae23a49f", func := "gamehall/gamehallkeep1.MinimaxWins", spec := "minimaxWins", unfollowed := true, recurses := true, apart := false }
def MinimaxWinsSaid : Prop := minimaxWinsRow.holds Try.pinned (OpenSpec.ofChange minimaxWinsSpec)

/-- ITS FALSE NEIGHBOUR: 'it returns false'. Refute it at one input. -/
def minimaxWinsWrong : ChangeSpec := { name := "minimaxWins", fn := fun _ => fun
  | [d1, d2, d3] => { results := [.lit (.bool false)], args := [d1, d2, d3] }
  | _ => none }
def MinimaxWinsWrongFalsely : Prop := minimaxWinsRow.holds Try.pinned (OpenSpec.ofChange minimaxWinsWrong)

/-- 'gamehallkeep1.DeepenAgrees': WHATEVER THE INPUT: true; the input reads as it did. -/
def deepenAgreesSpec : ChangeSpec := { name := "deepenAgrees", fn := fun _ => fun
  | [d1, d2, d3, d4] => { results := [.lit (.bool true)], args := [d1, d2, d3, d4] }
  | _ => none }
def deepenAgreesRow : OpenClaim := { program := "ytmofipijjokjfaa", sum := "21a6e51114a1dcae7920de99fc9e69dc86ce7942e0f0c3288183b268ae23a49f", func := "gamehall/gamehallkeep1.DeepenAgrees", spec := "deepenAgrees", unfollowed := true, recurses := true, apart := false }
def DeepenAgreesSaid : Prop := deepenAgreesRow.holds Try.pinned (OpenSpec.ofChange deepenAgreesSpec)

/-- ITS FALSE NEIGHBOUR: 'it returns false'. Refute it at one input. -/
def deepenAgreesWrong : ChangeSpec := { name := "deepenAgrees", fn := fun _ => fun
  | [d1, d2, d3, d4] => { results := [.lit (.bool false)], args := [d1, d2, d3, d4] }
  | _ => none }
def DeepenAgreesWrongFalsely : Prop := deepenAgreesRow.holds Try.pinned (OpenSpec.ofChange deepenAgreesWrong)

/-- 'gamehallkeep1.PlainReplays': WHATEVER THE INPUT: true; the input reads as it did. -/
def plainReplaysSpec : ChangeSpec := { name := "plainReplays", fn := fun _ => fun
  | [d1, d2] => { results := [.lit (.bool true)], args := [d1, d2] }
  | _ => none }
def plainReplaysRow : OpenClaim := { program := "ytmofipijjokjfaa", sum := "21a6e51114a1dcae7920de99fc9e69dc86ce7942e0f0c3288183b268ae23a49f", func := "gamehall/gamehallkeep1.PlainReplays", spec := "plainReplays", unfollowed := true, recurses := true, apart := false }
def PlainReplaysSaid : Prop := plainReplaysRow.holds Try.pinned (OpenSpec.ofChange plainReplaysSpec)

/-- ITS FALSE NEIGHBOUR: 'it returns false'. Refute it at one input. -/
def plainReplaysWrong : ChangeSpec := { name := "plainReplays", fn := fun _ => fun
  | [d1, d2] => { results := [.lit (.bool false)], args := [d1, d2] }
  | _ => none }
def PlainReplaysWrongFalsely : Prop := plainReplaysRow.holds Try.pinned (OpenSpec.ofChange plainReplaysWrong)

/-- 'gamehallkeep1.PlainRepeats': WHATEVER THE INPUT: true; the input reads as it did. -/
def plainRepeatsSpec : ChangeSpec := { name := "plainRepeats", fn := fun _ => fun
  | [d1, d2] => { results := [.lit (.bool true)], args := [d1, d2] }
  | _ => none }
def plainRepeatsRow : OpenClaim := { program := "ytmofipijjokjfaa", sum := "21a6e51114a1dcae7920de99fc9e69dc86ce7942e0f0c3288183b268ae23a49f", func := "gamehall/gamehallkeep1.PlainRepeats", spec := "plainRepeats", unfollowed := true, recurses := true, apart := false }
def PlainRepeatsSaid : Prop := plainRepeatsRow.holds Try.pinned (OpenSpec.ofChange plainRepeatsSpec)

/-- ITS FALSE NEIGHBOUR: 'it returns false'. Refute it at one input. -/
def plainRepeatsWrong : ChangeSpec := { name := "plainRepeats", fn := fun _ => fun
  | [d1, d2] => { results := [.lit (.bool false)], args := [d1, d2] }
  | _ => none }
def PlainRepeatsWrongFalsely : Prop := plainRepeatsRow.holds Try.pinned (OpenSpec.ofChange plainRepeatsWrong)

/-- 'gamehallkeep1.SymmScores': WHATEVER THE INPUT: true; the input reads as it did. -/
def symmScoresSpec : ChangeSpec := { name := "symmScores", fn := fun _ => fun
  | [d1, d2, d3] => { results := [.lit (.bool true)], args := [d1, d2, d3] }
  | _ => none }
def symmScoresRow : OpenClaim := { program := "ytmofipijjokjfaa", sum := "21a6e51114a1dcae7920de99fc9e69dc86ce7942e0f0c3288183b268ae23a49f", func := "gamehall/gamehallkeep1.SymmScores", spec := "symmScores", unfollowed := true, recurses := true, apart := false }
def SymmScoresSaid : Prop := symmScoresRow.holds Try.pinned (OpenSpec.ofChange symmScoresSpec)

/-- ITS FALSE NEIGHBOUR: 'it returns false'. Refute it at one input. -/
def symmScoresWrong : ChangeSpec := { name := "symmScores", fn := fun _ => fun
  | [d1, d2, d3] => { results := [.lit (.bool false)], args := [d1, d2, d3] }
  | _ => none }
def SymmScoresWrongFalsely : Prop := symmScoresRow.holds Try.pinned (OpenSpec.ofChange symmScoresWrong)

/- THE SECOND FORM. 'bulk': how many values and letters a reading holds, each counted each time it is reached (what is shared counts as often as it is met; a slice's spare places count too). A statement '..UptoSaid' is the law's where the arguments, and the package variables that the reading takes, are together of bulk at most 1048576: NARROWER than '..Said'. Prove '..Said' where nothing that the law and all that it calls make is longer than what came in: it says more and counts as full. Else prove '..UptoSaid'. A law counts once. -/
mutual
def uptoBulk {H : Type} : DataW H → Nat
  | .lit (.string bytes) => bytes.length + 1
  | .lit _ => 1
  | .nil => 1
  | .ptr d => uptoBulk d + 1
  | .slice elems spare => uptoBulkAll elems + uptoBulkAll spare + 1
  | .agg parts => uptoBulkAll parts + 1
  | .iface _ d => uptoBulk d + 1
  | .map entries => uptoBulkEntries entries + 1
  | .held _ => 1
def uptoBulkAll {H : Type} : List (DataW H) → Nat
  | [] => 0
  | d :: r => uptoBulk d + uptoBulkAll r
def uptoBulkEntries {H : Type} : List (Lit × DataW H) → Nat
  | [] => 0
  | x :: r => uptoBulkEntry x + uptoBulkEntries r
def uptoBulkEntry {H : Type} : Lit × DataW H → Nat
  | (.string bytes, d) => bytes.length + uptoBulk d + 1
  | (_, d) => uptoBulk d + 1
 end
def uptoSmall : (H : Type) → List (DataW H) → Bool := fun _ ds => decide (uptoBulkAll ds ≤ 1048576)
def OpenSpec.upto (s : _root_.Go.ChangeSpec) : _root_.Go.OpenSpec := { _root_.Go.OpenSpec.ofChange s with cond := some uptoSmall }

/-- 'gamehallkeep1.PerftAfter', WHERE WHAT IT READS IS OF BULK AT MOST 1048576: true; the input reads as it did. -/
def perftAfterUptoRow : OpenClaim := { program := "ytmofipijjokjfaa", sum := "21a6e51114a1dcae7920de99fc9e69dc86ce7942e0f0c3288183b268ae23a49f", func := "gamehall/gamehallkeep1.PerftAfter", spec := "perftAfter", unfollowed := true, recurses := true, apart := false, narrowed := true }
def PerftAfterUptoSaid : Prop := perftAfterUptoRow.holds Try.pinned (OpenSpec.upto perftAfterSpec)

/-- 'gamehallkeep1.WindowSaves', WHERE WHAT IT READS IS OF BULK AT MOST 1048576: true; the input reads as it did. -/
def windowSavesUptoRow : OpenClaim := { program := "ytmofipijjokjfaa", sum := "21a6e51114a1dcae7920de99fc9e69dc86ce7942e0f0c3288183b268ae23a49f", func := "gamehall/gamehallkeep1.WindowSaves", spec := "windowSaves", unfollowed := true, recurses := true, apart := false, narrowed := true }
def WindowSavesUptoSaid : Prop := windowSavesUptoRow.holds Try.pinned (OpenSpec.upto windowSavesSpec)

/-- 'gamehallkeep1.WindowReaches', WHERE WHAT IT READS IS OF BULK AT MOST 1048576: true; the input reads as it did. -/
def windowReachesUptoRow : OpenClaim := { program := "ytmofipijjokjfaa", sum := "21a6e51114a1dcae7920de99fc9e69dc86ce7942e0f0c3288183b268ae23a49f", func := "gamehall/gamehallkeep1.WindowReaches", spec := "windowReaches", unfollowed := true, recurses := true, apart := false, narrowed := true }
def WindowReachesUptoSaid : Prop := windowReachesUptoRow.holds Try.pinned (OpenSpec.upto windowReachesSpec)

/-- 'gamehallkeep1.WindowParts', WHERE WHAT IT READS IS OF BULK AT MOST 1048576: true; the input reads as it did. -/
def windowPartsUptoRow : OpenClaim := { program := "ytmofipijjokjfaa", sum := "21a6e51114a1dcae7920de99fc9e69dc86ce7942e0f0c3288183b268ae23a49f", func := "gamehall/gamehallkeep1.WindowParts", spec := "windowParts", unfollowed := true, recurses := true, apart := false, narrowed := true }
def WindowPartsUptoSaid : Prop := windowPartsUptoRow.holds Try.pinned (OpenSpec.upto windowPartsSpec)

/-- 'gamehallkeep1.MinimaxBounds', WHERE WHAT IT READS IS OF BULK AT MOST 1048576: true; the input reads as it did. -/
def minimaxBoundsUptoRow : OpenClaim := { program := "ytmofipijjokjfaa", sum := "21a6e51114a1dcae7920de99fc9e69dc86ce7942e0f0c3288183b268ae23a49f", func := "gamehall/gamehallkeep1.MinimaxBounds", spec := "minimaxBounds", unfollowed := true, recurses := true, apart := false, narrowed := true }
def MinimaxBoundsUptoSaid : Prop := minimaxBoundsUptoRow.holds Try.pinned (OpenSpec.upto minimaxBoundsSpec)

/-- 'gamehallkeep1.MinimaxDeeper', WHERE WHAT IT READS IS OF BULK AT MOST 1048576: true; the input reads as it did. -/
def minimaxDeeperUptoRow : OpenClaim := { program := "ytmofipijjokjfaa", sum := "21a6e51114a1dcae7920de99fc9e69dc86ce7942e0f0c3288183b268ae23a49f", func := "gamehall/gamehallkeep1.MinimaxDeeper", spec := "minimaxDeeper", unfollowed := true, recurses := true, apart := false, narrowed := true }
def MinimaxDeeperUptoSaid : Prop := minimaxDeeperUptoRow.holds Try.pinned (OpenSpec.upto minimaxDeeperSpec)

/-- 'gamehallkeep1.MinimaxLines', WHERE WHAT IT READS IS OF BULK AT MOST 1048576: true; the input reads as it did. -/
def minimaxLinesUptoRow : OpenClaim := { program := "ytmofipijjokjfaa", sum := "21a6e51114a1dcae7920de99fc9e69dc86ce7942e0f0c3288183b268ae23a49f", func := "gamehall/gamehallkeep1.MinimaxLines", spec := "minimaxLines", unfollowed := true, recurses := true, apart := false, narrowed := true }
def MinimaxLinesUptoSaid : Prop := minimaxLinesUptoRow.holds Try.pinned (OpenSpec.upto minimaxLinesSpec)

/-- 'gamehallkeep1.MinimaxWins', WHERE WHAT IT READS IS OF BULK AT MOST 1048576: true; the input reads as it did. -/
def minimaxWinsUptoRow : OpenClaim := { program := "ytmofipijjokjfaa", sum := "21a6e51114a1dcae7920de99fc9e69dc86ce7942e0f0c3288183b268ae23a49f", func := "gamehall/gamehallkeep1.MinimaxWins", spec := "minimaxWins", unfollowed := true, recurses := true, apart := false, narrowed := true }
def MinimaxWinsUptoSaid : Prop := minimaxWinsUptoRow.holds Try.pinned (OpenSpec.upto minimaxWinsSpec)

/-- 'gamehallkeep1.DeepenAgrees', WHERE WHAT IT READS IS OF BULK AT MOST 1048576: true; the input reads as it did. -/
def deepenAgreesUptoRow : OpenClaim := { program := "ytmofipijjokjfaa", sum := "21a6e51114a1dcae7920de99fc9e69dc86ce7942e0f0c3288183b268ae23a49f", func := "gamehall/gamehallkeep1.DeepenAgrees", spec := "deepenAgrees", unfollowed := true, recurses := true, apart := false, narrowed := true }
def DeepenAgreesUptoSaid : Prop := deepenAgreesUptoRow.holds Try.pinned (OpenSpec.upto deepenAgreesSpec)

/-- 'gamehallkeep1.PlainReplays', WHERE WHAT IT READS IS OF BULK AT MOST 1048576: true; the input reads as it did. -/
def plainReplaysUptoRow : OpenClaim := { program := "ytmofipijjokjfaa", sum := "21a6e51114a1dcae7920de99fc9e69dc86ce7942e0f0c3288183b268ae23a49f", func := "gamehall/gamehallkeep1.PlainReplays", spec := "plainReplays", unfollowed := true, recurses := true, apart := false, narrowed := true }
def PlainReplaysUptoSaid : Prop := plainReplaysUptoRow.holds Try.pinned (OpenSpec.upto plainReplaysSpec)

/-- 'gamehallkeep1.PlainRepeats', WHERE WHAT IT READS IS OF BULK AT MOST 1048576: true; the input reads as it did. -/
def plainRepeatsUptoRow : OpenClaim := { program := "ytmofipijjokjfaa", sum := "21a6e51114a1dcae7920de99fc9e69dc86ce7942e0f0c3288183b268ae23a49f", func := "gamehall/gamehallkeep1.PlainRepeats", spec := "plainRepeats", unfollowed := true, recurses := true, apart := false, narrowed := true }
def PlainRepeatsUptoSaid : Prop := plainRepeatsUptoRow.holds Try.pinned (OpenSpec.upto plainRepeatsSpec)

/-- 'gamehallkeep1.SymmScores', WHERE WHAT IT READS IS OF BULK AT MOST 1048576: true; the input reads as it did. -/
def symmScoresUptoRow : OpenClaim := { program := "ytmofipijjokjfaa", sum := "21a6e51114a1dcae7920de99fc9e69dc86ce7942e0f0c3288183b268ae23a49f", func := "gamehall/gamehallkeep1.SymmScores", spec := "symmScores", unfollowed := true, recurses := true, apart := false, narrowed := true }
def SymmScoresUptoSaid : Prop := symmScoresUptoRow.holds Try.pinned (OpenSpec.upto symmScoresSpec)

end Rows
end Go.Proofs.Ytmofipijjokjfaa
