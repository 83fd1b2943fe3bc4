/-
  No cell of these rows narrows 'for every input' (looked for: loops, veiled, ifaces, maps, wideKeys, modest, calm, conditions, laid).
  DERIVED. THE GIVEN ROWS OF THIS SEAT. 11 by the template 'for every input the law returns true; each argument reads behind the call as it read before'; 0 by the template 'total and deterministic' (their statements: YtfkcigekbgkcmaaTotals.lean).
  GIVEN WITH THE SEED: the statements are not yours to turn. If you find one false, say at which input.
  Laid BY PROGRAM, IN A SANDBOX (cutbox-rows.mjs): the forced cells as the released guide's own fill.sh prints them over the translation 54d70494c75f2f0e… (all of the seat's roots in one cut). By AI agents, Wed Nov 11 2026. No macro, syntax, notation, axiom, sorry.
-/
import Derived.Test.YtfkcigekbgkcmaaChecked
import GoSem.Claim
import GoSem.ClaimJoined
import GoSem.ClaimMapViews
import Derived.JoinedTies
import Derived.KernelRfl
namespace Go.Proofs.Ytfkcigekbgkcmaa
/- THE CELL 'sum', in the pinned program and in every row, IS THE sha256 OF THE DUMP (.gsa) THAT YtfkcigekbgkcmaaProg.lean LOADS. Nothing in Lean hashes anything: it is a label: what it is worth is what the hold of that sum in a sandbox is worth. -/
noncomputable def Try.pinned : Pinned := { name := "ytfkcigekbgkcmaa", sum := "54d70494c75f2f0e32b065798dc74f75ae65839a448a1c1b5e00e262245c74ac", checked := Try.checked }
namespace Rows
def none {H : Type} : Left H := { results := [], args := [] }

/-- 'gamehallkeep1.BoardBack': WHATEVER THE INPUT: true; the input reads as it did. -/
def boardBackSpec : ChangeSpec := { name := "boardBack", fn := fun _ => fun
  | [d1, d2, d3] => { results := [.lit (.bool true)], args := [d1, d2, d3] }
  | _ => none }
def boardBackRow : OpenClaim := { program := "ytfkcigekbgkcmaa", sum := "54d70494c75f2f0e32b065798dc74f75ae65839a448a1c1b5e00e262245c74ac", func := "gamehall/gamehallkeep1.BoardBack", spec := "boardBack", unfollowed := true, recurses := true, apart := false }
def BoardBackSaid : Prop := boardBackRow.holds Try.pinned (OpenSpec.ofChange boardBackSpec)

/-- ITS FALSE NEIGHBOUR: 'it returns false'. Refute it at one input. -/
def boardBackWrong : ChangeSpec := { name := "boardBack", fn := fun _ => fun
  | [d1, d2, d3] => { results := [.lit (.bool false)], args := [d1, d2, d3] }
  | _ => none }
def BoardBackWrongFalsely : Prop := boardBackRow.holds Try.pinned (OpenSpec.ofChange boardBackWrong)

/-- 'gamehallkeep1.ProofnumBudget': WHATEVER THE INPUT: true; the input reads as it did. -/
def proofnumBudgetSpec : ChangeSpec := { name := "proofnumBudget", fn := fun _ => fun
  | [d1, d2, d3, d4] => { results := [.lit (.bool true)], args := [d1, d2, d3, d4] }
  | _ => none }
def proofnumBudgetRow : OpenClaim := { program := "ytfkcigekbgkcmaa", sum := "54d70494c75f2f0e32b065798dc74f75ae65839a448a1c1b5e00e262245c74ac", func := "gamehall/gamehallkeep1.ProofnumBudget", spec := "proofnumBudget", unfollowed := true, recurses := true, apart := false }
def ProofnumBudgetSaid : Prop := proofnumBudgetRow.holds Try.pinned (OpenSpec.ofChange proofnumBudgetSpec)

/-- ITS FALSE NEIGHBOUR: 'it returns false'. Refute it at one input. -/
def proofnumBudgetWrong : ChangeSpec := { name := "proofnumBudget", fn := fun _ => fun
  | [d1, d2, d3, d4] => { results := [.lit (.bool false)], args := [d1, d2, d3, d4] }
  | _ => none }
def ProofnumBudgetWrongFalsely : Prop := proofnumBudgetRow.holds Try.pinned (OpenSpec.ofChange proofnumBudgetWrong)

/-- 'gamehallkeep1.WalkPrefix': WHATEVER THE INPUT: true; the input reads as it did. -/
def walkPrefixSpec : ChangeSpec := { name := "walkPrefix", fn := fun _ => fun
  | [d1, d2, d3, d4, d5] => { results := [.lit (.bool true)], args := [d1, d2, d3, d4, d5] }
  | _ => none }
def walkPrefixRow : OpenClaim := { program := "ytfkcigekbgkcmaa", sum := "54d70494c75f2f0e32b065798dc74f75ae65839a448a1c1b5e00e262245c74ac", func := "gamehall/gamehallkeep1.WalkPrefix", spec := "walkPrefix", unfollowed := true, recurses := true, apart := false }
def WalkPrefixSaid : Prop := walkPrefixRow.holds Try.pinned (OpenSpec.ofChange walkPrefixSpec)

/-- ITS FALSE NEIGHBOUR: 'it returns false'. Refute it at one input. -/
def walkPrefixWrong : ChangeSpec := { name := "walkPrefix", fn := fun _ => fun
  | [d1, d2, d3, d4, d5] => { results := [.lit (.bool false)], args := [d1, d2, d3, d4, d5] }
  | _ => none }
def WalkPrefixWrongFalsely : Prop := walkPrefixRow.holds Try.pinned (OpenSpec.ofChange walkPrefixWrong)

/-- 'gamehallkeep1.WalkDraws': WHATEVER THE INPUT: true; the input reads as it did. -/
def walkDrawsSpec : ChangeSpec := { name := "walkDraws", fn := fun _ => fun
  | [d1, d2] => { results := [.lit (.bool true)], args := [d1, d2] }
  | _ => none }
def walkDrawsRow : OpenClaim := { program := "ytfkcigekbgkcmaa", sum := "54d70494c75f2f0e32b065798dc74f75ae65839a448a1c1b5e00e262245c74ac", func := "gamehall/gamehallkeep1.WalkDraws", spec := "walkDraws", unfollowed := true, recurses := true, apart := false }
def WalkDrawsSaid : Prop := walkDrawsRow.holds Try.pinned (OpenSpec.ofChange walkDrawsSpec)

/-- ITS FALSE NEIGHBOUR: 'it returns false'. Refute it at one input. -/
def walkDrawsWrong : ChangeSpec := { name := "walkDraws", fn := fun _ => fun
  | [d1, d2] => { results := [.lit (.bool false)], args := [d1, d2] }
  | _ => none }
def WalkDrawsWrongFalsely : Prop := walkDrawsRow.holds Try.pinned (OpenSpec.ofChange walkDrawsWrong)

/-- 'gamehallkeep1.BoardKeys': WHATEVER THE INPUT: true; the input reads as it did. -/
def boardKeysSpec : ChangeSpec := { name := "boardKeys", fn := fun _ => fun
  | [d1, d2, d3] => { results := [.lit (.bool true)], args := [d1, d2, d3] }
  | _ => none }
def boardKeysRow : OpenClaim := { program := "ytfkcigekbgkcmaa", sum := "54d70494c75f2f0e32b065798dc74f75ae65839a448a1c1b5e00e262245c74ac", func := "gamehall/gamehallkeep1.BoardKeys", spec := "boardKeys", unfollowed := true, recurses := true, apart := false }
def BoardKeysSaid : Prop := boardKeysRow.holds Try.pinned (OpenSpec.ofChange boardKeysSpec)

/-- ITS FALSE NEIGHBOUR: 'it returns false'. Refute it at one input. -/
def boardKeysWrong : ChangeSpec := { name := "boardKeys", fn := fun _ => fun
  | [d1, d2, d3] => { results := [.lit (.bool false)], args := [d1, d2, d3] }
  | _ => none }
def BoardKeysWrongFalsely : Prop := boardKeysRow.holds Try.pinned (OpenSpec.ofChange boardKeysWrong)

/-- 'gamehallkeep1.WalkAdds': WHATEVER THE INPUT: true; the input reads as it did. -/
def walkAddsSpec : ChangeSpec := { name := "walkAdds", fn := fun _ => fun
  | [d1, d2, d3, d4] => { results := [.lit (.bool true)], args := [d1, d2, d3, d4] }
  | _ => none }
def walkAddsRow : OpenClaim := { program := "ytfkcigekbgkcmaa", sum := "54d70494c75f2f0e32b065798dc74f75ae65839a448a1c1b5e00e262245c74ac", func := "gamehall/gamehallkeep1.WalkAdds", spec := "walkAdds", unfollowed := true, recurses := true, apart := false }
def WalkAddsSaid : Prop := walkAddsRow.holds Try.pinned (OpenSpec.ofChange walkAddsSpec)

/-- ITS FALSE NEIGHBOUR: 'it returns false'. Refute it at one input. -/
def walkAddsWrong : ChangeSpec := { name := "walkAdds", fn := fun _ => fun
  | [d1, d2, d3, d4] => { results := [.lit (.bool false)], args := [d1, d2, d3, d4] }
  | _ => none }
def WalkAddsWrongFalsely : Prop := walkAddsRow.holds Try.pinned (OpenSpec.ofChange walkAddsWrong)

/-- 'gamehallkeep1.ProofnumRight': WHATEVER THE INPUT: true; the input reads as it did. -/
def proofnumRightSpec : ChangeSpec := { name := "proofnumRight", fn := fun _ => fun
  | [d1, d2, d3, d4] => { results := [.lit (.bool true)], args := [d1, d2, d3, d4] }
  | _ => none }
def proofnumRightRow : OpenClaim := { program := "ytfkcigekbgkcmaa", sum := "54d70494c75f2f0e32b065798dc74f75ae65839a448a1c1b5e00e262245c74ac", func := "gamehall/gamehallkeep1.ProofnumRight", spec := "proofnumRight", unfollowed := true, recurses := true, apart := false }
def ProofnumRightSaid : Prop := proofnumRightRow.holds Try.pinned (OpenSpec.ofChange proofnumRightSpec)

/-- ITS FALSE NEIGHBOUR: 'it returns false'. Refute it at one input. -/
def proofnumRightWrong : ChangeSpec := { name := "proofnumRight", fn := fun _ => fun
  | [d1, d2, d3, d4] => { results := [.lit (.bool false)], args := [d1, d2, d3, d4] }
  | _ => none }
def ProofnumRightWrongFalsely : Prop := proofnumRightRow.holds Try.pinned (OpenSpec.ofChange proofnumRightWrong)

/-- 'gamehallkeep1.CertMakes': WHATEVER THE INPUT: true; the input reads as it did. -/
def certMakesSpec : ChangeSpec := { name := "certMakes", fn := fun _ => fun
  | [d1, d2, d3] => { results := [.lit (.bool true)], args := [d1, d2, d3] }
  | _ => none }
def certMakesRow : OpenClaim := { program := "ytfkcigekbgkcmaa", sum := "54d70494c75f2f0e32b065798dc74f75ae65839a448a1c1b5e00e262245c74ac", func := "gamehall/gamehallkeep1.CertMakes", spec := "certMakes", unfollowed := true, recurses := true, apart := false }
def CertMakesSaid : Prop := certMakesRow.holds Try.pinned (OpenSpec.ofChange certMakesSpec)

/-- ITS FALSE NEIGHBOUR: 'it returns false'. Refute it at one input. -/
def certMakesWrong : ChangeSpec := { name := "certMakes", fn := fun _ => fun
  | [d1, d2, d3] => { results := [.lit (.bool false)], args := [d1, d2, d3] }
  | _ => none }
def CertMakesWrongFalsely : Prop := certMakesRow.holds Try.pinned (OpenSpec.ofChange certMakesWrong)

/-- 'gamehallkeep1.CertBreaks': WHATEVER THE INPUT: true; the input reads as it did. -/
def certBreaksSpec : ChangeSpec := { name := "certBreaks", fn := fun _ => fun
  | [d1, d2, d3, d4, d5] => { results := [.lit (.bool true)], args := [d1, d2, d3, d4, d5] }
  | _ => none }
def certBreaksRow : OpenClaim := { program := "ytfkcigekbgkcmaa", sum := "54d70494c75f2f0e32b065798dc74f75ae65839a448a1c1b5e00e262245c74ac", func := "gamehall/gamehallkeep1.CertBreaks", spec := "certBreaks", unfollowed := true, recurses := true, apart := false }
def CertBreaksSaid : Prop := certBreaksRow.holds Try.pinned (OpenSpec.ofChange certBreaksSpec)

/-- ITS FALSE NEIGHBOUR: 'it returns false'. Refute it at one input. -/
def certBreaksWrong : ChangeSpec := { name := "certBreaks", fn := fun _ => fun
  | [d1, d2, d3, d4, d5] => { results := [.lit (.bool false)], args := [d1, d2, d3, d4, d5] }
  | _ => none }
def CertBreaksWrongFalsely : Prop := certBreaksRow.holds Try.pinned (OpenSpec.ofChange certBreaksWrong)

/-- 'gamehallkeep1.ProofnumFirst': WHATEVER THE INPUT: true; the input reads as it did. -/
def proofnumFirstSpec : ChangeSpec := { name := "proofnumFirst", fn := fun _ => fun
  | [d1, d2, d3, d4] => { results := [.lit (.bool true)], args := [d1, d2, d3, d4] }
  | _ => none }
def proofnumFirstRow : OpenClaim := { program := "ytfkcigekbgkcmaa", sum := "54d70494c75f2f0e32b065798dc74f75ae65839a448a1c1b5e00e262245c74ac", func := "gamehall/gamehallkeep1.ProofnumFirst", spec := "proofnumFirst", unfollowed := true, recurses := true, apart := false }
def ProofnumFirstSaid : Prop := proofnumFirstRow.holds Try.pinned (OpenSpec.ofChange proofnumFirstSpec)

/-- ITS FALSE NEIGHBOUR: 'it returns false'. Refute it at one input. -/
def proofnumFirstWrong : ChangeSpec := { name := "proofnumFirst", fn := fun _ => fun
  | [d1, d2, d3, d4] => { results := [.lit (.bool false)], args := [d1, d2, d3, d4] }
  | _ => none }
def ProofnumFirstWrongFalsely : Prop := proofnumFirstRow.holds Try.pinned (OpenSpec.ofChange proofnumFirstWrong)

/-- 'gamehallkeep1.StoreSlots': WHATEVER THE INPUT: true; the input reads as it did. -/
def storeSlotsSpec : ChangeSpec := { name := "storeSlots", fn := fun _ => fun
  | [d1, d2, d3, d4, d5, d6] => { results := [.lit (.bool true)], args := [d1, d2, d3, d4, d5, d6] }
  | _ => none }
def storeSlotsRow : OpenClaim := { program := "ytfkcigekbgkcmaa", sum := "54d70494c75f2f0e32b065798dc74f75ae65839a448a1c1b5e00e262245c74ac", func := "gamehall/gamehallkeep1.StoreSlots", spec := "storeSlots", unfollowed := true, recurses := true, apart := false }
def StoreSlotsSaid : Prop := storeSlotsRow.holds Try.pinned (OpenSpec.ofChange storeSlotsSpec)

/-- ITS FALSE NEIGHBOUR: 'it returns false'. Refute it at one input. -/
def storeSlotsWrong : ChangeSpec := { name := "storeSlots", fn := fun _ => fun
  | [d1, d2, d3, d4, d5, d6] => { results := [.lit (.bool false)], args := [d1, d2, d3, d4, d5, d6] }
  | _ => none }
def StoreSlotsWrongFalsely : Prop := storeSlotsRow.holds Try.pinned (OpenSpec.ofChange storeSlotsWrong)

/- THE SECOND FORM. 'bulk': how many values and letters a reading holds, each counted each time it is reached (what is shared counts as often as it is met; a slice's spare places count too). A statement '..UptoSaid' is the law's where the arguments, and the package variables that the reading takes, are together of bulk at most 1048576: NARROWER than '..Said'. Prove '..Said' where nothing that the law and all that it calls make is longer than what came in: it says more and counts as full. Else prove '..UptoSaid'. A law counts once. -/
mutual
def uptoBulk {H : Type} : DataW H → Nat
  | .lit (.string bytes) => bytes.length + 1
  | .lit _ => 1
  | .nil => 1
  | .ptr d => uptoBulk d + 1
  | .slice elems spare => uptoBulkAll elems + uptoBulkAll spare + 1
  | .agg parts => uptoBulkAll parts + 1
  | .iface _ d => uptoBulk d + 1
  | .map entries => uptoBulkEntries entries + 1
  | .held _ => 1
def uptoBulkAll {H : Type} : List (DataW H) → Nat
  | [] => 0
  | d :: r => uptoBulk d + uptoBulkAll r
def uptoBulkEntries {H : Type} : List (Lit × DataW H) → Nat
  | [] => 0
  | x :: r => uptoBulkEntry x + uptoBulkEntries r
def uptoBulkEntry {H : Type} : Lit × DataW H → Nat
  | (.string bytes, d) => bytes.length + uptoBulk d + 1
  | (_, d) => uptoBulk d + 1
 end
def uptoSmall : (H : Type) → List (DataW H) → Bool := fun _ ds => decide (uptoBulkAll ds ≤ 1048576)
def OpenSpec.upto (s : _root_.Go.ChangeSpec) : _root_.Go.OpenSpec := { _root_.Go.OpenSpec.ofChange s with cond := some uptoSmall }

/-- 'gamehallkeep1.BoardBack', WHERE WHAT IT READS IS OF BULK AT MOST 1048576: true; the input reads as it did. -/
def boardBackUptoRow : OpenClaim := { program := "ytfkcigekbgkcmaa", sum := "54d70494c75f2f0e32b065798dc74f75ae65839a448a1c1b5e00e262245c74ac", func := "gamehall/gamehallkeep1.BoardBack", spec := "boardBack", unfollowed := true, recurses := true, apart := false, narrowed := true }
def BoardBackUptoSaid : Prop := boardBackUptoRow.holds Try.pinned (OpenSpec.upto boardBackSpec)

/-- 'gamehallkeep1.ProofnumBudget', WHERE WHAT IT READS IS OF BULK AT MOST 1048576: true; the input reads as it did. -/
def proofnumBudgetUptoRow : OpenClaim := { program := "ytfkcigekbgkcmaa", sum := "54d70494c75f2f0e32b065798dc74f75ae65839a448a1c1b5e00e262245c74ac", func := "gamehall/gamehallkeep1.ProofnumBudget", spec := "proofnumBudget", unfollowed := true, recurses := true, apart := false, narrowed := true }
def ProofnumBudgetUptoSaid : Prop := proofnumBudgetUptoRow.holds Try.pinned (OpenSpec.upto proofnumBudgetSpec)

/-- 'gamehallkeep1.WalkPrefix', WHERE WHAT IT READS IS OF BULK AT MOST 1048576: true; the input reads as it did. -/
def walkPrefixUptoRow : OpenClaim := { program := "ytfkcigekbgkcmaa", sum := "54d70494c75f2f0e32b065798dc74f75ae65839a448a1c1b5e00e262245c74ac", func := "gamehall/gamehallkeep1.WalkPrefix", spec := "walkPrefix", unfollowed := true, recurses := true, apart := false, narrowed := true }
def WalkPrefixUptoSaid : Prop := walkPrefixUptoRow.holds Try.pinned (OpenSpec.upto walkPrefixSpec)

/-- 'gamehallkeep1.WalkDraws', WHERE WHAT IT READS IS OF BULK AT MOST 1048576: true; the input reads as it did. -/
def walkDrawsUptoRow : OpenClaim := { program := "ytfkcigekbgkcmaa", sum := "54d70494c75f2f0e32b065798dc74f75ae65839a448a1c1b5e00e262245c74ac", func := "gamehall/gamehallkeep1.WalkDraws", spec := "walkDraws", unfollowed := true, recurses := true, apart := false, narrowed := true }
def WalkDrawsUptoSaid : Prop := walkDrawsUptoRow.holds Try.pinned (OpenSpec.upto walkDrawsSpec)

/-- 'gamehallkeep1.BoardKeys', WHERE WHAT IT READS IS OF BULK AT MOST 1048576: true; the input reads as it did. -/
def boardKeysUptoRow : OpenClaim := { program := "ytfkcigekbgkcmaa", sum := "54d70494c75f2f0e32b065798dc74f75ae65839a448a1c1b5e00e262245c74ac", func := "gamehall/gamehallkeep1.BoardKeys", spec := "boardKeys", unfollowed := true, recurses := true, apart := false, narrowed := true }
def BoardKeysUptoSaid : Prop := boardKeysUptoRow.holds Try.pinned (OpenSpec.upto boardKeysSpec)

/-- 'gamehallkeep1.WalkAdds', WHERE WHAT IT READS IS OF BULK AT MOST 1048576: true; the input reads as it did. -/
def walkAddsUptoRow : OpenClaim := { program := "ytfkcigekbgkcmaa", sum := "54d70494c75f2f0e32b065798dc74f75ae65839a448a1c1b5e00e262245c74ac", func := "gamehall/gamehallkeep1.WalkAdds", spec := "walkAdds", unfollowed := true, recurses := true, apart := false, narrowed := true }
def WalkAddsUptoSaid : Prop := walkAddsUptoRow.holds Try.pinned (OpenSpec.upto walkAddsSpec)

/-- 'gamehallkeep1.ProofnumRight', WHERE WHAT IT READS IS OF BULK AT MOST 1048576: true; the input reads as it did. -/
def proofnumRightUptoRow : OpenClaim := { program := "ytfkcigekbgkcmaa", sum := "54d70494c75f2f0e32b065798dc74f75ae65839a448a1c1b5e00e262245c74ac", func := "gamehall/gamehallkeep1.ProofnumRight", spec := "proofnumRight", unfollowed := true, recurses := true, apart := false, narrowed := true }
def ProofnumRightUptoSaid : Prop := proofnumRightUptoRow.holds Try.pinned (OpenSpec.upto proofnumRightSpec)

/-- 'gamehallkeep1.CertMakes', WHERE WHAT IT READS IS OF BULK AT MOST 1048576: true; the input reads as it did. -/
def certMakesUptoRow : OpenClaim := { program := "ytfkcigekbgkcmaa", sum := "54d70494c75f2f0e32b065798dc74f75ae65839a448a1c1b5e00e262245c74ac", func := "gamehall/gamehallkeep1.CertMakes", spec := "certMakes", unfollowed := true, recurses := true, apart := false, narrowed := true }
def CertMakesUptoSaid : Prop := certMakesUptoRow.holds Try.pinned (OpenSpec.upto certMakesSpec)

/-- 'gamehallkeep1.CertBreaks', WHERE WHAT IT READS IS OF BULK AT MOST 1048576: true; the input reads as it did. -/
def certBreaksUptoRow : OpenClaim := { program := "ytfkcigekbgkcmaa", sum := "54d70494c75f2f0e32b065798dc74f75ae65839a448a1c1b5e00e262245c74ac", func := "gamehall/gamehallkeep1.CertBreaks", spec := "certBreaks", unfollowed := true, recurses := true, apart := false, narrowed := true }
def CertBreaksUptoSaid : Prop := certBreaksUptoRow.holds Try.pinned (OpenSpec.upto certBreaksSpec)

/-- 'gamehallkeep1.ProofnumFirst', WHERE WHAT IT READS IS OF BULK AT MOST 1048576: true; the input reads as it did. -/
def proofnumFirstUptoRow : OpenClaim := { program := "ytfkcigekbgkcmaa", sum := "54d70494c75f2f0e32b065798dc74f75ae65839a448a1c1b5e00e262245c74ac", func := "gamehall/gamehallkeep1.ProofnumFirst", spec := "proofnumFirst", unfollowed := true, recurses := true, apart := false, narrowed := true }
def ProofnumFirstUptoSaid : Prop := proofnumFirstUptoRow.holds Try.pinned (OpenSpec.upto proofnumFirstSpec)

/-- 'gamehallkeep1.StoreSlots', WHERE WHAT IT READS IS OF BULK AT MOST 1048576: true; the input reads as it did. -/
def storeSlotsUptoRow : OpenClaim := { program := "ytfkcigekbgkcmaa", sum := "54d70494c75f2f0e32b065798dc74f75ae65839a448a1c1b5e00e262245c74ac", func := "gamehall/gamehallkeep1.StoreSlots", spec := "storeSlots", unfollowed := true, recurses := true, apart := false, narrowed := true }
def StoreSlotsUptoSaid : Prop := storeSlotsUptoRow.holds Try.pinned (OpenSpec.upto storeSlotsSpec)

end Rows
end Go.Proofs.Ytfkcigekbgkcmaa
