/-
  NARROWER THAN 'FOR EVERY INPUT', by the rows' own cells (each row's printed sentence says how): FnExactTreeTests: loops · FnExactTreeLeaves: loops.
  DERIVED. THE GIVEN ROWS OF THIS SEAT. 6 by the template 'for every input the law returns true; each argument reads behind the call as it read before'; 0 by the template 'total and deterministic' (their statements: YtoacjahdkkdffaaTotals.lean).
  GIVEN WITH THE SEED: the statements are not yours to turn. If you find one false, say at which input.
  Laid BY PROGRAM, IN A SANDBOX (cutbox-rows.mjs): the forced cells as the released guide's own fill.sh prints them over the translation 81ee3677564651bf… (all of the seat's roots in one cut). By AI agents, Wed Nov 11 2026. No macro, syntax, notation, axiom, sorry.
-/
import Derived.Test.YtoacjahdkkdffaaChecked
import GoSem.Claim
import GoSem.ClaimJoined
import GoSem.ClaimMapViews
import Derived.JoinedTies
import Derived.KernelRfl
namespace Go.Proofs.Ytoacjahdkkdffaa
/- THE CELL 'sum', in the pinned program and in every row, IS THE sha256 OF THE DUMP (.gsa) THAT YtoacjahdkkdffaaProg.lean LOADS. Nothing in Lean hashes anything: it is a label: what it is worth is what the hold of that sum in a sandbox is worth. -/
noncomputable def Try.pinned : Pinned := { name := "ytoacjahdkkdffaa", sum := "81ee3677564651bfb3ed57cc0acec15216bdb5f2388e4f55c9123c0f7566645d", checked := Try.checked }
namespace Rows
def none {H : Type} : Left H := { results := [], args := [] }

/-- 'laws.FnExactTreeTests': WHATEVER THE INPUT: true; the input reads as it did. -/
def fnExactTreeTestsSpec : ChangeSpec := { name := "fnExactTreeTests", fn := fun _ => fun
  | [d] => { results := [.lit (.bool true)], args := [d] }
  | _ => none }
def fnExactTreeTestsRow : OpenClaim := { program := "ytoacjahdkkdffaa", sum := "81ee3677564651bfb3ed57cc0acec15216bdb5f2388e4f55c9123c0f7566645d", func := "loop.example/matchcompiler/laws.FnExactTreeTests", spec := "fnExactTreeTests", recurses := true, loops := true, apart := false }
def FnExactTreeTestsSaid : Prop := fnExactTreeTestsRow.holds Try.pinned (OpenSpec.ofChange fnExactTreeTestsSpec)

/-- ITS FALSE NEIGHBOUR: 'it returns false'. Refute it at one input. -/
def fnExactTreeTestsWrong : ChangeSpec := { name := "fnExactTreeTests", fn := fun _ => fun
  | [d] => { results := [.lit (.bool false)], args := [d] }
  | _ => none }
def FnExactTreeTestsWrongFalsely : Prop := fnExactTreeTestsRow.holds Try.pinned (OpenSpec.ofChange fnExactTreeTestsWrong)

/-- 'laws.FnExactTypeFits': WHATEVER THE INPUT: true; the input reads as it did. -/
def fnExactTypeFitsSpec : ChangeSpec := { name := "fnExactTypeFits", fn := fun _ => fun
  | [d1, d2, d3] => { results := [.lit (.bool true)], args := [d1, d2, d3] }
  | _ => none }
def fnExactTypeFitsRow : OpenClaim := { program := "ytoacjahdkkdffaa", sum := "81ee3677564651bfb3ed57cc0acec15216bdb5f2388e4f55c9123c0f7566645d", func := "loop.example/matchcompiler/laws.FnExactTypeFits", spec := "fnExactTypeFits", unfollowed := true, recurses := true, apart := false }
def FnExactTypeFitsSaid : Prop := fnExactTypeFitsRow.holds Try.pinned (OpenSpec.ofChange fnExactTypeFitsSpec)

/-- ITS FALSE NEIGHBOUR: 'it returns false'. Refute it at one input. -/
def fnExactTypeFitsWrong : ChangeSpec := { name := "fnExactTypeFits", fn := fun _ => fun
  | [d1, d2, d3] => { results := [.lit (.bool false)], args := [d1, d2, d3] }
  | _ => none }
def FnExactTypeFitsWrongFalsely : Prop := fnExactTypeFitsRow.holds Try.pinned (OpenSpec.ofChange fnExactTypeFitsWrong)

/-- 'laws.FnTypeFitsThree': WHATEVER THE INPUT: true; the input reads as it did. -/
def fnTypeFitsThreeSpec : ChangeSpec := { name := "fnTypeFitsThree", fn := fun _ => fun
  | [d] => { results := [.lit (.bool true)], args := [d] }
  | _ => none }
def fnTypeFitsThreeRow : OpenClaim := { program := "ytoacjahdkkdffaa", sum := "81ee3677564651bfb3ed57cc0acec15216bdb5f2388e4f55c9123c0f7566645d", func := "loop.example/matchcompiler/laws.FnTypeFitsThree", spec := "fnTypeFitsThree", unfollowed := true, recurses := true, apart := false }
def FnTypeFitsThreeSaid : Prop := fnTypeFitsThreeRow.holds Try.pinned (OpenSpec.ofChange fnTypeFitsThreeSpec)

/-- ITS FALSE NEIGHBOUR: 'it returns false'. Refute it at one input. -/
def fnTypeFitsThreeWrong : ChangeSpec := { name := "fnTypeFitsThree", fn := fun _ => fun
  | [d] => { results := [.lit (.bool false)], args := [d] }
  | _ => none }
def FnTypeFitsThreeWrongFalsely : Prop := fnTypeFitsThreeRow.holds Try.pinned (OpenSpec.ofChange fnTypeFitsThreeWrong)

/-- 'laws.FnExactTreeLeaves': WHATEVER THE INPUT: true; the input reads as it did. -/
def fnExactTreeLeavesSpec : ChangeSpec := { name := "fnExactTreeLeaves", fn := fun _ => fun
  | [d] => { results := [.lit (.bool true)], args := [d] }
  | _ => none }
def fnExactTreeLeavesRow : OpenClaim := { program := "ytoacjahdkkdffaa", sum := "81ee3677564651bfb3ed57cc0acec15216bdb5f2388e4f55c9123c0f7566645d", func := "loop.example/matchcompiler/laws.FnExactTreeLeaves", spec := "fnExactTreeLeaves", recurses := true, loops := true, apart := false }
def FnExactTreeLeavesSaid : Prop := fnExactTreeLeavesRow.holds Try.pinned (OpenSpec.ofChange fnExactTreeLeavesSpec)

/-- ITS FALSE NEIGHBOUR: 'it returns false'. Refute it at one input. -/
def fnExactTreeLeavesWrong : ChangeSpec := { name := "fnExactTreeLeaves", fn := fun _ => fun
  | [d] => { results := [.lit (.bool false)], args := [d] }
  | _ => none }
def FnExactTreeLeavesWrongFalsely : Prop := fnExactTreeLeavesRow.holds Try.pinned (OpenSpec.ofChange fnExactTreeLeavesWrong)

/-- 'laws.FnTypeFits': WHATEVER THE INPUT: true; the input reads as it did. -/
def fnTypeFitsSpec : ChangeSpec := { name := "fnTypeFits", fn := fun _ => fun
  | [d] => { results := [.lit (.bool true)], args := [d] }
  | _ => none }
def fnTypeFitsRow : OpenClaim := { program := "ytoacjahdkkdffaa", sum := "81ee3677564651bfb3ed57cc0acec15216bdb5f2388e4f55c9123c0f7566645d", func := "loop.example/matchcompiler/laws.FnTypeFits", spec := "fnTypeFits", unfollowed := true, recurses := true, apart := false }
def FnTypeFitsSaid : Prop := fnTypeFitsRow.holds Try.pinned (OpenSpec.ofChange fnTypeFitsSpec)

/-- ITS FALSE NEIGHBOUR: 'it returns false'. Refute it at one input. -/
def fnTypeFitsWrong : ChangeSpec := { name := "fnTypeFits", fn := fun _ => fun
  | [d] => { results := [.lit (.bool false)], args := [d] }
  | _ => none }
def FnTypeFitsWrongFalsely : Prop := fnTypeFitsRow.holds Try.pinned (OpenSpec.ofChange fnTypeFitsWrong)

/-- 'laws.FnExprSame': WHATEVER THE INPUT: true; the input reads as it did. -/
def fnExprSameSpec : ChangeSpec := { name := "fnExprSame", fn := fun _ => fun
  | [d] => { results := [.lit (.bool true)], args := [d] }
  | _ => none }
def fnExprSameRow : OpenClaim := { program := "ytoacjahdkkdffaa", sum := "81ee3677564651bfb3ed57cc0acec15216bdb5f2388e4f55c9123c0f7566645d", func := "loop.example/matchcompiler/laws.FnExprSame", spec := "fnExprSame", unfollowed := true, recurses := true, apart := false }
def FnExprSameSaid : Prop := fnExprSameRow.holds Try.pinned (OpenSpec.ofChange fnExprSameSpec)

/-- ITS FALSE NEIGHBOUR: 'it returns false'. Refute it at one input. -/
def fnExprSameWrong : ChangeSpec := { name := "fnExprSame", fn := fun _ => fun
  | [d] => { results := [.lit (.bool false)], args := [d] }
  | _ => none }
def FnExprSameWrongFalsely : Prop := fnExprSameRow.holds Try.pinned (OpenSpec.ofChange fnExprSameWrong)

/- THE SECOND FORM. 'bulk': how many values and letters a reading holds, each counted each time it is reached (what is shared counts as often as it is met; a slice's spare places count too). A statement '..UptoSaid' is the law's where the arguments, and the package variables that the reading takes, are together of bulk at most 1048576: NARROWER than '..Said'. Prove '..Said' where nothing that the law and all that it calls make is longer than what came in: it says more and counts as full. Else prove '..UptoSaid'. A law counts once. -/
mutual
def uptoBulk {H : Type} : DataW H → Nat
  | .lit (.string bytes) => bytes.length + 1
  | .lit _ => 1
  | .nil => 1
  | .ptr d => uptoBulk d + 1
  | .slice elems spare => uptoBulkAll elems + uptoBulkAll spare + 1
  | .agg parts => uptoBulkAll parts + 1
  | .iface _ d => uptoBulk d + 1
  | .map entries => uptoBulkEntries entries + 1
  | .held _ => 1
def uptoBulkAll {H : Type} : List (DataW H) → Nat
  | [] => 0
  | d :: r => uptoBulk d + uptoBulkAll r
def uptoBulkEntries {H : Type} : List (Lit × DataW H) → Nat
  | [] => 0
  | x :: r => uptoBulkEntry x + uptoBulkEntries r
def uptoBulkEntry {H : Type} : Lit × DataW H → Nat
  | (.string bytes, d) => bytes.length + uptoBulk d + 1
  | (_, d) => uptoBulk d + 1
 end
def uptoSmall : (H : Type) → List (DataW H) → Bool := fun _ ds => decide (uptoBulkAll ds ≤ 1048576)
def OpenSpec.upto (s : _root_.Go.ChangeSpec) : _root_.Go.OpenSpec := { _root_.Go.OpenSpec.ofChange s with cond := some uptoSmall }

/-- 'laws.FnExactTreeTests', WHERE WHAT IT READS IS OF BULK AT MOST 1048576: true; the input reads as it did. -/
def fnExactTreeTestsUptoRow : OpenClaim := { program := "ytoacjahdkkdffaa", sum := "81ee3677564651bfb3ed57cc0acec15216bdb5f2388e4f55c9123c0f7566645d", func := "loop.example/matchcompiler/laws.FnExactTreeTests", spec := "fnExactTreeTests", recurses := true, loops := true, apart := false, narrowed := true }
def FnExactTreeTestsUptoSaid : Prop := fnExactTreeTestsUptoRow.holds Try.pinned (OpenSpec.upto fnExactTreeTestsSpec)

/-- 'laws.FnExactTypeFits', WHERE WHAT IT READS IS OF BULK AT MOST 1048576: true; the input reads as it did. -/
def fnExactTypeFitsUptoRow : OpenClaim := { program := "ytoacjahdkkdffaa", sum := "81ee3677564651bfb3ed57cc0acec15216bdb5f2388e4f55c9123c0f7566645d", func := "loop.example/matchcompiler/laws.FnExactTypeFits", spec := "fnExactTypeFits", unfollowed := true, recurses := true, apart := false, narrowed := true }
def FnExactTypeFitsUptoSaid : Prop := fnExactTypeFitsUptoRow.holds Try.pinned (OpenSpec.upto fnExactTypeFitsSpec)

/-- 'laws.FnTypeFitsThree', WHERE WHAT IT READS IS OF BULK AT MOST 1048576: true; the input reads as it did. -/
def fnTypeFitsThreeUptoRow : OpenClaim := { program := "ytoacjahdkkdffaa", sum := "81ee3677564651bfb3ed57cc0acec15216bdb5f2388e4f55c9123c0f7566645d", func := "loop.example/matchcompiler/laws.FnTypeFitsThree", spec := "fnTypeFitsThree", unfollowed := true, recurses := true, apart := false, narrowed := true }
def FnTypeFitsThreeUptoSaid : Prop := fnTypeFitsThreeUptoRow.holds Try.pinned (OpenSpec.upto fnTypeFitsThreeSpec)

/-- 'laws.FnExactTreeLeaves', WHERE WHAT IT READS IS OF BULK AT MOST 1048576: true; the input reads as it did. -/
def fnExactTreeLeavesUptoRow : OpenClaim := { program := "ytoacjahdkkdffaa", sum := "81ee3677564651bfb3ed57cc0acec15216bdb5f2388e4f55c9123c0f7566645d", func := "loop.example/matchcompiler/laws.FnExactTreeLeaves", spec := "fnExactTreeLeaves", recurses := true, loops := true, apart := false, narrowed := true }
def FnExactTreeLeavesUptoSaid : Prop := fnExactTreeLeavesUptoRow.holds Try.pinned (OpenSpec.upto fnExactTreeLeavesSpec)

/-- 'laws.FnTypeFits', WHERE WHAT IT READS IS OF BULK AT MOST 1048576: true; the input reads as it did. -/
def fnTypeFitsUptoRow : OpenClaim := { program := "ytoacjahdkkdffaa", sum := "81ee3677564651bfb3ed57cc0acec15216bdb5f2388e4f55c9123c0f7566645d", func := "loop.example/matchcompiler/laws.FnTypeFits", spec := "fnTypeFits", unfollowed := true, recurses := true, apart := false, narrowed := true }
def FnTypeFitsUptoSaid : Prop := fnTypeFitsUptoRow.holds Try.pinned (OpenSpec.upto fnTypeFitsSpec)

/-- 'laws.FnExprSame', WHERE WHAT IT READS IS OF BULK AT MOST 1048576: true; the input reads as it did. -/
def fnExprSameUptoRow : OpenClaim := { program := "ytoacjahdkkdffaa", sum := "81ee3677564651bfb3ed57cc0acec15216bdb5f2388e4f55c9123c0f7566645d", func := "loop.example/matchcompiler/laws.FnExprSame", spec := "fnExprSame", unfollowed := true, recurses := true, apart := false, narrowed := true }
def FnExprSameUptoSaid : Prop := fnExprSameUptoRow.holds Try.pinned (OpenSpec.upto fnExprSameSpec)

end Rows
end Go.Proofs.Ytoacjahdkkdffaa
