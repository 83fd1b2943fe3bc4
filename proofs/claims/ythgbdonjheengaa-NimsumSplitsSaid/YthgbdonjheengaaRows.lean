/-
  No cell of these rows narrows 'for every input' (looked for: loops, veiled, ifaces, maps, wideKeys, modest, calm, conditions, laid).
  DERIVED. THE GIVEN ROWS OF THIS SEAT. 5 by the template 'for every input the law returns true; each argument reads behind the call as it read before'; 0 by the template 'total and deterministic' (their statements: YthgbdonjheengaaTotals.lean).
  GIVEN WITH THE SEED: the statements are not yours to turn. If you find one false, say at which input.
  Laid BY PROGRAM, IN A SANDBOX (cutbox-rows.mjs): the forced cells as the released guide's own fill.sh prints them over the translation 906c4fc2d38bb0fe… (all of the seat's roots in one cut). By AI agents, Wed Nov 11 2026. No macro, syntax, notation, axiom, sorry.
-/
import Derived.Test.YthgbdonjheengaaChecked
import GoSem.Claim
import GoSem.ClaimJoined
import GoSem.ClaimMapViews
import Derived.JoinedTies
import Derived.KernelRfl
namespace Go.Proofs.Ythgbdonjheengaa
/- THE CELL 'sum', in the pinned program and in every row, IS THE sha256 OF THE DUMP (.gsa) THAT YthgbdonjheengaaProg.lean LOADS. Nothing in Lean hashes anything: it is a label: what it is worth is what the hold of that sum in a sandbox is worth. -/
noncomputable def Try.pinned : Pinned := { name := "ythgbdonjheengaa", sum := "906c4fc2d38bb0fe8de669d3349138e182fd4962ae6b40758a801b67b51c2331", checked := Try.checked }
namespace Rows
def none {H : Type} : Left H := { results := [], args := [] }

/-- 'gamehallkeep1.NimsumSums': WHATEVER THE INPUT: true; the input reads as it did. -/
def nimsumSumsSpec : ChangeSpec := { name := "nimsumSums", fn := fun _ => fun
  | [d1, d2, d3, d4] => { results := [.lit (.bool true)], args := [d1, d2, d3, d4] }
  | _ => none }
def nimsumSumsRow : OpenClaim := { program := "ythgbdonjheengaa", sum := "906c4fc2d38bb0fe8de669d3349138e182fd4962ae6b40758a801b67b51c2331", func := "gamehall/gamehallkeep1.NimsumSums", spec := "nimsumSums", unfollowed := true, recurses := true, plainKeys := false, apart := false }
def NimsumSumsSaid : Prop := nimsumSumsRow.holds Try.pinned (OpenSpec.ofChange nimsumSumsSpec)

/-- ITS FALSE NEIGHBOUR: 'it returns false'. Refute it at one input. -/
def nimsumSumsWrong : ChangeSpec := { name := "nimsumSums", fn := fun _ => fun
  | [d1, d2, d3, d4] => { results := [.lit (.bool false)], args := [d1, d2, d3, d4] }
  | _ => none }
def NimsumSumsWrongFalsely : Prop := nimsumSumsRow.holds Try.pinned (OpenSpec.ofChange nimsumSumsWrong)

/-- 'gamehallkeep1.NimsumTaken': WHATEVER THE INPUT: true; the input reads as it did. -/
def nimsumTakenSpec : ChangeSpec := { name := "nimsumTaken", fn := fun _ => fun
  | [d] => { results := [.lit (.bool true)], args := [d] }
  | _ => none }
def nimsumTakenRow : OpenClaim := { program := "ythgbdonjheengaa", sum := "906c4fc2d38bb0fe8de669d3349138e182fd4962ae6b40758a801b67b51c2331", func := "gamehall/gamehallkeep1.NimsumTaken", spec := "nimsumTaken", unfollowed := true, recurses := true, plainKeys := false, apart := false }
def NimsumTakenSaid : Prop := nimsumTakenRow.holds Try.pinned (OpenSpec.ofChange nimsumTakenSpec)

/-- ITS FALSE NEIGHBOUR: 'it returns false'. Refute it at one input. -/
def nimsumTakenWrong : ChangeSpec := { name := "nimsumTaken", fn := fun _ => fun
  | [d] => { results := [.lit (.bool false)], args := [d] }
  | _ => none }
def NimsumTakenWrongFalsely : Prop := nimsumTakenRow.holds Try.pinned (OpenSpec.ofChange nimsumTakenWrong)

/-- 'gamehallkeep1.NimsumLimits': WHATEVER THE INPUT: true; the input reads as it did. -/
def nimsumLimitsSpec : ChangeSpec := { name := "nimsumLimits", fn := fun _ => fun
  | [d1, d2] => { results := [.lit (.bool true)], args := [d1, d2] }
  | _ => none }
def nimsumLimitsRow : OpenClaim := { program := "ythgbdonjheengaa", sum := "906c4fc2d38bb0fe8de669d3349138e182fd4962ae6b40758a801b67b51c2331", func := "gamehall/gamehallkeep1.NimsumLimits", spec := "nimsumLimits", unfollowed := true, recurses := true, plainKeys := false, apart := false }
def NimsumLimitsSaid : Prop := nimsumLimitsRow.holds Try.pinned (OpenSpec.ofChange nimsumLimitsSpec)

/-- ITS FALSE NEIGHBOUR: 'it returns false'. Refute it at one input. -/
def nimsumLimitsWrong : ChangeSpec := { name := "nimsumLimits", fn := fun _ => fun
  | [d1, d2] => { results := [.lit (.bool false)], args := [d1, d2] }
  | _ => none }
def NimsumLimitsWrongFalsely : Prop := nimsumLimitsRow.holds Try.pinned (OpenSpec.ofChange nimsumLimitsWrong)

/-- 'gamehallkeep1.NimsumWins': WHATEVER THE INPUT: true; the input reads as it did. -/
def nimsumWinsSpec : ChangeSpec := { name := "nimsumWins", fn := fun _ => fun
  | [d1, d2] => { results := [.lit (.bool true)], args := [d1, d2] }
  | _ => none }
def nimsumWinsRow : OpenClaim := { program := "ythgbdonjheengaa", sum := "906c4fc2d38bb0fe8de669d3349138e182fd4962ae6b40758a801b67b51c2331", func := "gamehall/gamehallkeep1.NimsumWins", spec := "nimsumWins", unfollowed := true, recurses := true, plainKeys := false, apart := false }
def NimsumWinsSaid : Prop := nimsumWinsRow.holds Try.pinned (OpenSpec.ofChange nimsumWinsSpec)

/-- ITS FALSE NEIGHBOUR: 'it returns false'. Refute it at one input. -/
def nimsumWinsWrong : ChangeSpec := { name := "nimsumWins", fn := fun _ => fun
  | [d1, d2] => { results := [.lit (.bool false)], args := [d1, d2] }
  | _ => none }
def NimsumWinsWrongFalsely : Prop := nimsumWinsRow.holds Try.pinned (OpenSpec.ofChange nimsumWinsWrong)

/-- 'gamehallkeep1.NimsumSplits': WHATEVER THE INPUT: true; the input reads as it did. -/
def nimsumSplitsSpec : ChangeSpec := { name := "nimsumSplits", fn := fun _ => fun
  | [d] => { results := [.lit (.bool true)], args := [d] }
  | _ => none }
def nimsumSplitsRow : OpenClaim := { program := "ythgbdonjheengaa", sum := "906c4fc2d38bb0fe8de669d3349138e182fd4962ae6b40758a801b67b51c2331", func := "gamehall/gamehallkeep1.NimsumSplits", spec := "nimsumSplits", unfollowed := true, recurses := true, plainKeys := false, apart := false }
def NimsumSplitsSaid : Prop := nimsumSplitsRow.holds Try.pinned (OpenSpec.ofChange nimsumSplitsSpec)

/-- ITS FALSE NEIGHBOUR: 'it returns false'. Refute it at one input. -/
def nimsumSplitsWrong : ChangeSpec := { name := "nimsumSplits", fn := fun _ => fun
  | [d] => { results := [.lit (.bool false)], args := [d] }
  | _ => none }
def NimsumSplitsWrongFalsely : Prop := nimsumSplitsRow.holds Try.pinned (OpenSpec.ofChange nimsumSplitsWrong)

/- THE SECOND FORM. 'bulk': how many values and letters a reading holds, each counted each time it is reached (what is shared counts as often as it is met; a slice's spare places count too). A statement '..UptoSaid' is the law's where the arguments, and the package variables that the reading takes, are together of bulk at most 1048576: NARROWER than '..Said'. Prove '..Said' where nothing that the law and all that it calls make is longer than what came in: it says more and counts as full. Else prove '..UptoSaid'. A law counts once. -/
mutual
def uptoBulk {H : Type} : DataW H → Nat
  | .lit (.string bytes) => bytes.length + 1
  | .lit _ => 1
  | .nil => 1
  | .ptr d => uptoBulk d + 1
  | .slice elems spare => uptoBulkAll elems + uptoBulkAll spare + 1
  | .agg parts => uptoBulkAll parts + 1
  | .iface _ d => uptoBulk d + 1
  | .map entries => uptoBulkEntries entries + 1
  | .held _ => 1
def uptoBulkAll {H : Type} : List (DataW H) → Nat
  | [] => 0
  | d :: r => uptoBulk d + uptoBulkAll r
def uptoBulkEntries {H : Type} : List (Lit × DataW H) → Nat
  | [] => 0
  | x :: r => uptoBulkEntry x + uptoBulkEntries r
def uptoBulkEntry {H : Type} : Lit × DataW H → Nat
  | (.string bytes, d) => bytes.length + uptoBulk d + 1
  | (_, d) => uptoBulk d + 1
 end
def uptoSmall : (H : Type) → List (DataW H) → Bool := fun _ ds => decide (uptoBulkAll ds ≤ 1048576)
def OpenSpec.upto (s : _root_.Go.ChangeSpec) : _root_.Go.OpenSpec := { _root_.Go.OpenSpec.ofChange s with cond := some uptoSmall }

/-- 'gamehallkeep1.NimsumSums', WHERE WHAT IT READS IS OF BULK AT MOST 1048576: true; the input reads as it did. -/
def nimsumSumsUptoRow : OpenClaim := { program := "ythgbdonjheengaa", sum := "906c4fc2d38bb0fe8de669d3349138e182fd4962ae6b40758a801b67b51c2331", func := "gamehall/gamehallkeep1.NimsumSums", spec := "nimsumSums", unfollowed := true, recurses := true, plainKeys := false, apart := false, narrowed := true }
def NimsumSumsUptoSaid : Prop := nimsumSumsUptoRow.holds Try.pinned (OpenSpec.upto nimsumSumsSpec)

/-- 'gamehallkeep1.NimsumTaken', WHERE WHAT IT READS IS OF BULK AT MOST 1048576: true; the input reads as it did. -/
def nimsumTakenUptoRow : OpenClaim := { program := "ythgbdonjheengaa", sum := "906c4fc2d38bb0fe8de669d3349138e182fd4962ae6b40758a801b67b51c2331", func := "gamehall/gamehallkeep1.NimsumTaken", spec := "nimsumTaken", unfollowed := true, recurses := true, plainKeys := false, apart := false, narrowed := true }
def NimsumTakenUptoSaid : Prop := nimsumTakenUptoRow.holds Try.pinned (OpenSpec.upto nimsumTakenSpec)

/-- 'gamehallkeep1.NimsumLimits', WHERE WHAT IT READS IS OF BULK AT MOST 1048576: true; the input reads as it did. -/
def nimsumLimitsUptoRow : OpenClaim := { program := "ythgbdonjheengaa", sum := "906c4fc2d38bb0fe8de669d3349138e182fd4962ae6b40758a801b67b51c2331", func := "gamehall/gamehallkeep1.NimsumLimits", spec := "nimsumLimits", unfollowed := true, recurses := true, plainKeys := false, apart := false, narrowed := true }
def NimsumLimitsUptoSaid : Prop := nimsumLimitsUptoRow.holds Try.pinned (OpenSpec.upto nimsumLimitsSpec)

/-- 'gamehallkeep1.NimsumWins', WHERE WHAT IT READS IS OF BULK AT MOST 1048576: true; the input reads as it did. -/
def nimsumWinsUptoRow : OpenClaim := { program := "ythgbdonjheengaa", sum := "906c4fc2d38bb0fe8de669d3349138e182fd4962ae6b40758a801b67b51c2331", func := "gamehall/gamehallkeep1.NimsumWins", spec := "nimsumWins", unfollowed := true, recurses := true, plainKeys := false, apart := false, narrowed := true }
def NimsumWinsUptoSaid : Prop := nimsumWinsUptoRow.holds Try.pinned (OpenSpec.upto nimsumWinsSpec)

/-- 'gamehallkeep1.NimsumSplits', WHERE WHAT IT READS IS OF BULK AT MOST 1048576: true; the input reads as it did. -/
def nimsumSplitsUptoRow : OpenClaim := { program := "ythgbdonjheengaa", sum := "906c4fc2d38bb0fe8de669d3349138e182fd4962ae6b40758a801b67b51c2331", func := "gamehall/gamehallkeep1.NimsumSplits", spec := "nimsumSplits", unfollowed := true, recurses := true, plainKeys := false, apart := false, narrowed := true }
def NimsumSplitsUptoSaid : Prop := nimsumSplitsUptoRow.holds Try.pinned (OpenSpec.upto nimsumSplitsSpec)

end Rows
end Go.Proofs.Ythgbdonjheengaa
