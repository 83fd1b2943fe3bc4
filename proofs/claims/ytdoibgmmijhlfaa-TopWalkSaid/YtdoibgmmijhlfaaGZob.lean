/- Walk: zob.Mix. Walk: zob.Of. Walk: zob.Key. -/
import Derived.Test.YtdoibgmmijhlfaaRows
import Derived.Test.YtdoibgmmijhlfaaGBase
import Derived.ProofKit
import Derived.OpenShut
import Derived.Outline
import Derived.Laws.BitsLemmas
import Derived.Test.YtdoibgmmijhlfaaOther
namespace Go.Proofs.Ytdoibgmmijhlfaa
open Go.ChangeShapes Go.WideShapes Go.ChangeAt Go.RowKit
set_option linter.unusedVariables false
def mixA (n : Int) : Int := IntKind.u64.wrap ((n + 1) * 11400714819323198485)
def mixB (z : Int) : Int := IntKind.u64.wrap (bits .xor .u64 z (z / 1073741824) * 13787848793156543929)
def mixC (z : Int) : Int := IntKind.u64.wrap (bits .xor .u64 z (z / 134217728) * 10723151780598845931)
/-- What zob.Mix answers. -/
def mixM (n : Int) : Int := bits .xor .u64 (mixC (mixB (mixA n))) (mixC (mixB (mixA n)) / 2147483648)
theorem Mix_any (n : Int) (w : World) (h0 : 0 ≤ n) (h1 : n ≤ 1000000000000000) : Calls Try.prog 132 #[.int .i64 n] w fun e w' => e = .returned (.int .u64 (mixM n)) ∧ w = w' := by
  go_enter Try.func132, Try.ntmps132
  go_wp2
  go_ret
  exact ⟨rfl, rfl⟩
end Go.Proofs.Ytdoibgmmijhlfaa
namespace Go.Proofs.Ytdoibgmmijhlfaa
open Go.ChangeShapes Go.WideShapes Go.ChangeAt Go.RowKit Go.Shelf
set_option linter.unusedVariables false
/-- The key of the first k squares. -/
def keyC (cs : List Int) : Nat → Int
  | 0 => 0
  | k + 1 => if cs.getD k 0 = 0 then keyC cs k else IntKind.u64.wrap (keyC cs k + mixM (16 * (k : Int) + cs.getD k 0))
/-- .. and of the first k types of player p's hand. -/
def keyH (base : Int) (hd : List Int) (p : Int) : Nat → Int
  | 0 => base
  | k + 1 => IntKind.u64.wrap (keyH base hd p k + IntKind.u64.wrap (mixM (2000 + 8 * p + (k : Int)) * hd.getD k 0))
def keyB (P : PosM) : Int := keyH (keyH (keyC P.cells P.cells.length) P.hand0 0 P.hand0.length) P.hand1 1 P.hand1.length
def keyM (P : PosM) : Int := if P.turn = 1 then IntKind.u64.wrap (keyB P + mixM 3000) else keyB P
def keyP (P : PosM) (k : Nat) : Int := if k = 0 then keyC P.cells P.cells.length else if k = 1 then keyH (keyC P.cells P.cells.length) P.hand0 0 P.hand0.length else keyB P
end Go.Proofs.Ytdoibgmmijhlfaa
namespace Go.Proofs.Ytdoibgmmijhlfaa
open Go.ChangeShapes Go.WideShapes Go.ChangeAt Go.RowKit Go.Shelf
set_option linter.unusedVariables false
end Go.Proofs.Ytdoibgmmijhlfaa
