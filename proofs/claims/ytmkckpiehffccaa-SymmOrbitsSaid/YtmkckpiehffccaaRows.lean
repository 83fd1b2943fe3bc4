/-
  No cell of these rows narrows 'for every input' (looked for: loops, veiled, ifaces, maps, wideKeys, modest, calm, conditions, laid).
  DERIVED. THE GIVEN ROWS OF THIS SEAT. 4 by the template 'for every input the law returns true; each argument reads behind the call as it read before'; 0 by the template 'total and deterministic' (their statements: YtmkckpiehffccaaTotals.lean).
  GIVEN WITH THE SEED: the statements are not yours to turn. If you find one false, say at which input.
  Laid BY PROGRAM, IN A SANDBOX (cutbox-rows.mjs): the forced cells as the released guide's own fill.sh prints them over the translation bf4851d6864ad9f0… (all of the seat's roots in one cut). By AI agents, Wed Nov 11 2026. No macro, syntax, notation, axiom, sorry.
-/
import Derived.Test.YtmkckpiehffccaaChecked
import GoSem.Claim
import GoSem.ClaimJoined
import GoSem.ClaimMapViews
import Derived.JoinedTies
import Derived.KernelRfl
namespace Go.Proofs.Ytmkckpiehffccaa
/- THE CELL 'sum', in the pinned program and in every row, IS THE sha256 OF THE DUMP (.gsa) THAT YtmkckpiehffccaaProg.lean LOADS. Nothing in Lean hashes anything: it is a label: what it is worth is what the hold of that sum in a sandbox is worth. -/
noncomputable def Try.pinned : Pinned := { name := "ytmkckpiehffccaa", sum := "bf4851d6864ad9f00e364698a466d245bf73db4f6de00f36e4ddf04aad9d803c", checked := Try.checked }
namespace Rows
def none {H : Type} : Left H := { results := [], args := [] }

/-- 'gamehallkeep1.SymmTurned': WHATEVER THE INPUT: true; the input reads as it did. -/
def symmTurnedSpec : ChangeSpec := { name := "symmTurned", fn := fun _ => fun
  | [d1, d2, d3] => { results := [.lit (.bool true)], args := [d1, d2, d3] }
  | _ => none }
def symmTurnedRow : OpenClaim := { program := "ytmkckpiehffccaa", sum := "bf4851d6864ad9f00e364698a466d245bf73db4f6de00f36e4ddf04aad9d803c", func := "gamehall/gamehallkeep1.SymmTurned", spec := "symmTurned", unfollowed := true, recurses := true, apart := false }
def SymmTurnedSaid : Prop := symmTurnedRow.holds Try.pinned (OpenSpec.ofChange symmTurnedSpec)

/-- ITS FALSE NEIGHBOUR: 'it returns false'. Refute it at one input. -/
def symmTurnedWrong : ChangeSpec := { name := "symmTurned", fn := fun _ => fun
  | [d1, d2, d3] => { results := [.lit (.bool false)], args := [d1, d2, d3] }
  | _ => none }
def SymmTurnedWrongFalsely : Prop := symmTurnedRow.holds Try.pinned (OpenSpec.ofChange symmTurnedWrong)

/-- 'gamehallkeep1.SymmGroup': WHATEVER THE INPUT: true; the input reads as it did. -/
def symmGroupSpec : ChangeSpec := { name := "symmGroup", fn := fun _ => fun
  | [d1, d2, d3, d4, d5] => { results := [.lit (.bool true)], args := [d1, d2, d3, d4, d5] }
  | _ => none }
def symmGroupRow : OpenClaim := { program := "ytmkckpiehffccaa", sum := "bf4851d6864ad9f00e364698a466d245bf73db4f6de00f36e4ddf04aad9d803c", func := "gamehall/gamehallkeep1.SymmGroup", spec := "symmGroup", unfollowed := true, recurses := true, apart := false }
def SymmGroupSaid : Prop := symmGroupRow.holds Try.pinned (OpenSpec.ofChange symmGroupSpec)

/-- ITS FALSE NEIGHBOUR: 'it returns false'. Refute it at one input. -/
def symmGroupWrong : ChangeSpec := { name := "symmGroup", fn := fun _ => fun
  | [d1, d2, d3, d4, d5] => { results := [.lit (.bool false)], args := [d1, d2, d3, d4, d5] }
  | _ => none }
def SymmGroupWrongFalsely : Prop := symmGroupRow.holds Try.pinned (OpenSpec.ofChange symmGroupWrong)

/-- 'gamehallkeep1.SymmCanonical': WHATEVER THE INPUT: true; the input reads as it did. -/
def symmCanonicalSpec : ChangeSpec := { name := "symmCanonical", fn := fun _ => fun
  | [d1, d2, d3, d4] => { results := [.lit (.bool true)], args := [d1, d2, d3, d4] }
  | _ => none }
def symmCanonicalRow : OpenClaim := { program := "ytmkckpiehffccaa", sum := "bf4851d6864ad9f00e364698a466d245bf73db4f6de00f36e4ddf04aad9d803c", func := "gamehall/gamehallkeep1.SymmCanonical", spec := "symmCanonical", unfollowed := true, recurses := true, apart := false }
def SymmCanonicalSaid : Prop := symmCanonicalRow.holds Try.pinned (OpenSpec.ofChange symmCanonicalSpec)

/-- ITS FALSE NEIGHBOUR: 'it returns false'. Refute it at one input. -/
def symmCanonicalWrong : ChangeSpec := { name := "symmCanonical", fn := fun _ => fun
  | [d1, d2, d3, d4] => { results := [.lit (.bool false)], args := [d1, d2, d3, d4] }
  | _ => none }
def SymmCanonicalWrongFalsely : Prop := symmCanonicalRow.holds Try.pinned (OpenSpec.ofChange symmCanonicalWrong)

/-- 'gamehallkeep1.SymmOrbits': WHATEVER THE INPUT: true; the input reads as it did. -/
def symmOrbitsSpec : ChangeSpec := { name := "symmOrbits", fn := fun _ => fun
  | [d1, d2, d3, d4] => { results := [.lit (.bool true)], args := [d1, d2, d3, d4] }
  | _ => none }
def symmOrbitsRow : OpenClaim := { program := "ytmkckpiehffccaa", sum := "bf4851d6864ad9f00e364698a466d245bf73db4f6de00f36e4ddf04aad9d803c", func := "gamehall/gamehallkeep1.SymmOrbits", spec := "symmOrbits", unfollowed := true, recurses := true, apart := false }
def SymmOrbitsSaid : Prop := symmOrbitsRow.holds Try.pinned (OpenSpec.ofChange symmOrbitsSpec)

/-- ITS FALSE NEIGHBOUR: 'it returns false'. Refute it at one input. -/
def symmOrbitsWrong : ChangeSpec := { name := "symmOrbits", fn := fun _ => fun
  | [d1, d2, d3, d4] => { results := [.lit (.bool false)], args := [d1, d2, d3, d4] }
  | _ => none }
def SymmOrbitsWrongFalsely : Prop := symmOrbitsRow.holds Try.pinned (OpenSpec.ofChange symmOrbitsWrong)

/- THE SECOND FORM. 'bulk': how many values and letters a reading holds, each counted each time it is reached (what is shared counts as often as it is met; a slice's spare places count too). A statement '..UptoSaid' is the law's where the arguments, and the package variables that the reading takes, are together of bulk at most 1048576: NARROWER than '..Said'. Prove '..Said' where nothing that the law and all that it calls make is longer than what came in: it says more and counts as full. Else prove '..UptoSaid'. A law counts once. -/
mutual
def uptoBulk {H : Type} : DataW H → Nat
  | .lit (.string bytes) => bytes.length + 1
  | .lit _ => 1
  | .nil => 1
  | .ptr d => uptoBulk d + 1
  | .slice elems spare => uptoBulkAll elems + uptoBulkAll spare + 1
  | .agg parts => uptoBulkAll parts + 1
  | .iface _ d => uptoBulk d + 1
  | .map entries => uptoBulkEntries entries + 1
  | .held _ => 1
def uptoBulkAll {H : Type} : List (DataW H) → Nat
  | [] => 0
  | d :: r => uptoBulk d + uptoBulkAll r
def uptoBulkEntries {H : Type} : List (Lit × DataW H) → Nat
  | [] => 0
  | x :: r => uptoBulkEntry x + uptoBulkEntries r
def uptoBulkEntry {H : Type} : Lit × DataW H → Nat
  | (.string bytes, d) => bytes.length + uptoBulk d + 1
  | (_, d) => uptoBulk d + 1
 end
def uptoSmall : (H : Type) → List (DataW H) → Bool := fun _ ds => decide (uptoBulkAll ds ≤ 1048576)
def OpenSpec.upto (s : _root_.Go.ChangeSpec) : _root_.Go.OpenSpec := { _root_.Go.OpenSpec.ofChange s with cond := some uptoSmall }

/-- 'gamehallkeep1.SymmTurned', WHERE WHAT IT READS IS OF BULK AT MOST 1048576: true; the input reads as it did. -/
def symmTurnedUptoRow : OpenClaim := { program := "ytmkckpiehffccaa", sum := "bf4851d6864ad9f00e364698a466d245bf73db4f6de00f36e4ddf04aad9d803c", func := "gamehall/gamehallkeep1.SymmTurned", spec := "symmTurned", unfollowed := true, recurses := true, apart := false, narrowed := true }
def SymmTurnedUptoSaid : Prop := symmTurnedUptoRow.holds Try.pinned (OpenSpec.upto symmTurnedSpec)

/-- 'gamehallkeep1.SymmGroup', WHERE WHAT IT READS IS OF BULK AT MOST 1048576: true; the input reads as it did. -/
def symmGroupUptoRow : OpenClaim := { program := "ytmkckpiehffccaa", sum := "bf4851d6864ad9f00e364698a466d245bf73db4f6de00f36e4ddf04aad9d803c", func := "gamehall/gamehallkeep1.SymmGroup", spec := "symmGroup", unfollowed := true, recurses := true, apart := false, narrowed := true }
def SymmGroupUptoSaid : Prop := symmGroupUptoRow.holds Try.pinned (OpenSpec.upto symmGroupSpec)

/-- 'gamehallkeep1.SymmCanonical', WHERE WHAT IT READS IS OF BULK AT MOST 1048576: true; the input reads as it did. -/
def symmCanonicalUptoRow : OpenClaim := { program := "ytmkckpiehffccaa", sum := "bf4851d6864ad9f00e364698a466d245bf73db4f6de00f36e4ddf04aad9d803c", func := "gamehall/gamehallkeep1.SymmCanonical", spec := "symmCanonical", unfollowed := true, recurses := true, apart := false, narrowed := true }
def SymmCanonicalUptoSaid : Prop := symmCanonicalUptoRow.holds Try.pinned (OpenSpec.upto symmCanonicalSpec)

/-- 'gamehallkeep1.SymmOrbits', WHERE WHAT IT READS IS OF BULK AT MOST 1048576: true; the input reads as it did. -/
def symmOrbitsUptoRow : OpenClaim := { program := "ytmkckpiehffccaa", sum := "bf4851d6864ad9f00e364698a466d245bf73db4f6de00f36e4ddf04aad9d803c", func := "gamehall/gamehallkeep1.SymmOrbits", spec := "symmOrbits", unfollowed := true, recurses := true, apart := false, narrowed := true }
def SymmOrbitsUptoSaid : Prop := symmOrbitsUptoRow.holds Try.pinned (OpenSpec.upto symmOrbitsSpec)

end Rows
end Go.Proofs.Ytmkckpiehffccaa
