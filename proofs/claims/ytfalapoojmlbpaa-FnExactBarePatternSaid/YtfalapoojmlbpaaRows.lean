/-
  NARROWER THAN 'FOR EVERY INPUT', by the rows' own cells (each row's printed sentence says how): FnExactExprSame: loops · FnExactCallsOf: loops · FnExactBarePattern: loops · FnExactTreeSize: loops.
  DERIVED. THE GIVEN ROWS OF THIS SEAT. 5 by the template 'for every input the law returns true; each argument reads behind the call as it read before'; 0 by the template 'total and deterministic' (their statements: YtfalapoojmlbpaaTotals.lean).
  GIVEN WITH THE SEED: the statements are not yours to turn. If you find one false, say at which input.
  Laid BY PROGRAM, IN A SANDBOX (cutbox-rows.mjs): the forced cells as the released guide's own fill.sh prints them over the translation 5690c7cd2b5e25ee… (all of the seat's roots in one cut). By AI agents, Wed Nov 11 2026. No macro, syntax, notation, axiom, sorry.
-/
import Derived.Test.YtfalapoojmlbpaaChecked
import GoSem.Claim
import GoSem.ClaimJoined
import GoSem.ClaimMapViews
import Derived.JoinedTies
import Derived.KernelRfl
namespace Go.Proofs.Ytfalapoojmlbpaa
/- THE CELL 'sum', in the pinned program and in every row, IS THE sha256 OF THE DUMP (.gsa) THAT YtfalapoojmlbpaaProg.lean LOADS. Nothing in Lean hashes anything: it is a label: what it is worth is what the hold of that sum in a sandbox is worth. -/
noncomputable def Try.pinned : Pinned := { name := "ytfalapoojmlbpaa", sum := "5690c7cd2b5e25ee35fb1c60941b4300ae4ef4125f2b6f0bb438a682e50aed7c", checked := Try.checked }
namespace Rows
def none {H : Type} : Left H := { results := [], args := [] }

/-- 'laws.FnExactExprSame': WHATEVER THE INPUT: true; the input reads as it did. -/
def fnExactExprSameSpec : ChangeSpec := { name := "fnExactExprSame", fn := fun _ => fun
  | [d1, d2] => { results := [.lit (.bool true)], args := [d1, d2] }
  | _ => none }
def fnExactExprSameRow : OpenClaim := { program := "ytfalapoojmlbpaa", sum := "5690c7cd2b5e25ee35fb1c60941b4300ae4ef4125f2b6f0bb438a682e50aed7c", func := "loop.example/matchcompiler/laws.FnExactExprSame", spec := "fnExactExprSame", unfollowed := true, recurses := true, loops := true, apart := false }
def FnExactExprSameSaid : Prop := fnExactExprSameRow.holds Try.pinned (OpenSpec.ofChange fnExactExprSameSpec)

/-- ITS FALSE NEIGHBOUR: 'it returns false'. Refute it at one input. -/
def fnExactExprSameWrong : ChangeSpec := { name := "fnExactExprSame", fn := fun _ => fun
  | [d1, d2] => { results := [.lit (.bool false)], args := [d1, d2] }
  | _ => none }
def FnExactExprSameWrongFalsely : Prop := fnExactExprSameRow.holds Try.pinned (OpenSpec.ofChange fnExactExprSameWrong)

/-- 'laws.FnExactCallsOf': WHATEVER THE INPUT: true; the input reads as it did. -/
def fnExactCallsOfSpec : ChangeSpec := { name := "fnExactCallsOf", fn := fun _ => fun
  | [d] => { results := [.lit (.bool true)], args := [d] }
  | _ => none }
def fnExactCallsOfRow : OpenClaim := { program := "ytfalapoojmlbpaa", sum := "5690c7cd2b5e25ee35fb1c60941b4300ae4ef4125f2b6f0bb438a682e50aed7c", func := "loop.example/matchcompiler/laws.FnExactCallsOf", spec := "fnExactCallsOf", recurses := true, loops := true, apart := false }
def FnExactCallsOfSaid : Prop := fnExactCallsOfRow.holds Try.pinned (OpenSpec.ofChange fnExactCallsOfSpec)

/-- ITS FALSE NEIGHBOUR: 'it returns false'. Refute it at one input. -/
def fnExactCallsOfWrong : ChangeSpec := { name := "fnExactCallsOf", fn := fun _ => fun
  | [d] => { results := [.lit (.bool false)], args := [d] }
  | _ => none }
def FnExactCallsOfWrongFalsely : Prop := fnExactCallsOfRow.holds Try.pinned (OpenSpec.ofChange fnExactCallsOfWrong)

/-- 'laws.FnExactBarePattern': WHATEVER THE INPUT: true; the input reads as it did. -/
def fnExactBarePatternSpec : ChangeSpec := { name := "fnExactBarePattern", fn := fun _ => fun
  | [d] => { results := [.lit (.bool true)], args := [d] }
  | _ => none }
def fnExactBarePatternRow : OpenClaim := { program := "ytfalapoojmlbpaa", sum := "5690c7cd2b5e25ee35fb1c60941b4300ae4ef4125f2b6f0bb438a682e50aed7c", func := "loop.example/matchcompiler/laws.FnExactBarePattern", spec := "fnExactBarePattern", recurses := true, loops := true, apart := false }
def FnExactBarePatternSaid : Prop := fnExactBarePatternRow.holds Try.pinned (OpenSpec.ofChange fnExactBarePatternSpec)

/-- ITS FALSE NEIGHBOUR: 'it returns false'. Refute it at one input. -/
def fnExactBarePatternWrong : ChangeSpec := { name := "fnExactBarePattern", fn := fun _ => fun
  | [d] => { results := [.lit (.bool false)], args := [d] }
  | _ => none }
def FnExactBarePatternWrongFalsely : Prop := fnExactBarePatternRow.holds Try.pinned (OpenSpec.ofChange fnExactBarePatternWrong)

/-- 'laws.FnExactNodesValid': WHATEVER THE INPUT: true; the input reads as it did. -/
def fnExactNodesValidSpec : ChangeSpec := { name := "fnExactNodesValid", fn := fun _ => fun
  | [d] => { results := [.lit (.bool true)], args := [d] }
  | _ => none }
def fnExactNodesValidRow : OpenClaim := { program := "ytfalapoojmlbpaa", sum := "5690c7cd2b5e25ee35fb1c60941b4300ae4ef4125f2b6f0bb438a682e50aed7c", func := "loop.example/matchcompiler/laws.FnExactNodesValid", spec := "fnExactNodesValid", unfollowed := true, recurses := true, apart := false }
def FnExactNodesValidSaid : Prop := fnExactNodesValidRow.holds Try.pinned (OpenSpec.ofChange fnExactNodesValidSpec)

/-- ITS FALSE NEIGHBOUR: 'it returns false'. Refute it at one input. -/
def fnExactNodesValidWrong : ChangeSpec := { name := "fnExactNodesValid", fn := fun _ => fun
  | [d] => { results := [.lit (.bool false)], args := [d] }
  | _ => none }
def FnExactNodesValidWrongFalsely : Prop := fnExactNodesValidRow.holds Try.pinned (OpenSpec.ofChange fnExactNodesValidWrong)

/-- 'laws.FnExactTreeSize': WHATEVER THE INPUT: true; the input reads as it did. -/
def fnExactTreeSizeSpec : ChangeSpec := { name := "fnExactTreeSize", fn := fun _ => fun
  | [d] => { results := [.lit (.bool true)], args := [d] }
  | _ => none }
def fnExactTreeSizeRow : OpenClaim := { program := "ytfalapoojmlbpaa", sum := "5690c7cd2b5e25ee35fb1c60941b4300ae4ef4125f2b6f0bb438a682e50aed7c", func := "loop.example/matchcompiler/laws.FnExactTreeSize", spec := "fnExactTreeSize", recurses := true, loops := true, apart := false }
def FnExactTreeSizeSaid : Prop := fnExactTreeSizeRow.holds Try.pinned (OpenSpec.ofChange fnExactTreeSizeSpec)

/-- ITS FALSE NEIGHBOUR: 'it returns false'. Refute it at one input. -/
def fnExactTreeSizeWrong : ChangeSpec := { name := "fnExactTreeSize", fn := fun _ => fun
  | [d] => { results := [.lit (.bool false)], args := [d] }
  | _ => none }
def FnExactTreeSizeWrongFalsely : Prop := fnExactTreeSizeRow.holds Try.pinned (OpenSpec.ofChange fnExactTreeSizeWrong)

/- THE SECOND FORM. 'bulk': how many values and letters a reading holds, each counted each time it is reached (what is shared counts as often as it is met; a slice's spare places count too). A statement '..UptoSaid' is the law's where the arguments, and the package variables that the reading takes, are together of bulk at most 1048576: NARROWER than '..Said'. Prove '..Said' where nothing that the law and all that it calls make is longer than what came in: it says more and counts as full. Else prove '..UptoSaid'. A law counts once. -/
mutual
def uptoBulk {H : Type} : DataW H → Nat
  | .lit (.string bytes) => bytes.length + 1
  | .lit _ => 1
  | .nil => 1
  | .ptr d => uptoBulk d + 1
  | .slice elems spare => uptoBulkAll elems + uptoBulkAll spare + 1
  | .agg parts => uptoBulkAll parts + 1
  | .iface _ d => uptoBulk d + 1
  | .map entries => uptoBulkEntries entries + 1
  | .held _ => 1
def uptoBulkAll {H : Type} : List (DataW H) → Nat
  | [] => 0
  | d :: r => uptoBulk d + uptoBulkAll r
def uptoBulkEntries {H : Type} : List (Lit × DataW H) → Nat
  | [] => 0
  | x :: r => uptoBulkEntry x + uptoBulkEntries r
def uptoBulkEntry {H : Type} : Lit × DataW H → Nat
  | (.string bytes, d) => bytes.length + uptoBulk d + 1
  | (_, d) => uptoBulk d + 1
 end
def uptoSmall : (H : Type) → List (DataW H) → Bool := fun _ ds => decide (uptoBulkAll ds ≤ 1048576)
def OpenSpec.upto (s : _root_.Go.ChangeSpec) : _root_.Go.OpenSpec := { _root_.Go.OpenSpec.ofChange s with cond := some uptoSmall }

/-- 'laws.FnExactExprSame', WHERE WHAT IT READS IS OF BULK AT MOST 1048576: true; the input reads as it did. -/
def fnExactExprSameUptoRow : OpenClaim := { program := "ytfalapoojmlbpaa", sum := "5690c7cd2b5e25ee35fb1c60941b4300ae4ef4125f2b6f0bb438a682e50aed7c", func := "loop.example/matchcompiler/laws.FnExactExprSame", spec := "fnExactExprSame", unfollowed := true, recurses := true, loops := true, apart := false, narrowed := true }
def FnExactExprSameUptoSaid : Prop := fnExactExprSameUptoRow.holds Try.pinned (OpenSpec.upto fnExactExprSameSpec)

/-- 'laws.FnExactCallsOf', WHERE WHAT IT READS IS OF BULK AT MOST 1048576: true; the input reads as it did. -/
def fnExactCallsOfUptoRow : OpenClaim := { program := "ytfalapoojmlbpaa", sum := "5690c7cd2b5e25ee35fb1c60941b4300ae4ef4125f2b6f0bb438a682e50aed7c", func := "loop.example/matchcompiler/laws.FnExactCallsOf", spec := "fnExactCallsOf", recurses := true, loops := true, apart := false, narrowed := true }
def FnExactCallsOfUptoSaid : Prop := fnExactCallsOfUptoRow.holds Try.pinned (OpenSpec.upto fnExactCallsOfSpec)

/-- 'laws.FnExactBarePattern', WHERE WHAT IT READS IS OF BULK AT MOST 1048576: true; the input reads as it did. -/
def fnExactBarePatternUptoRow : OpenClaim := { program := "ytfalapoojmlbpaa", sum := "5690c7cd2b5e25ee35fb1c60941b4300ae4ef4125f2b6f0bb438a682e50aed7c", func := "loop.example/matchcompiler/laws.FnExactBarePattern", spec := "fnExactBarePattern", recurses := true, loops := true, apart := false, narrowed := true }
def FnExactBarePatternUptoSaid : Prop := fnExactBarePatternUptoRow.holds Try.pinned (OpenSpec.upto fnExactBarePatternSpec)

/-- 'laws.FnExactNodesValid', WHERE WHAT IT READS IS OF BULK AT MOST 1048576: true; the input reads as it did. -/
def fnExactNodesValidUptoRow : OpenClaim := { program := "ytfalapoojmlbpaa", sum := "5690c7cd2b5e25ee35fb1c60941b4300ae4ef4125f2b6f0bb438a682e50aed7c", func := "loop.example/matchcompiler/laws.FnExactNodesValid", spec := "fnExactNodesValid", unfollowed := true, recurses := true, apart := false, narrowed := true }
def FnExactNodesValidUptoSaid : Prop := fnExactNodesValidUptoRow.holds Try.pinned (OpenSpec.upto fnExactNodesValidSpec)

/-- 'laws.FnExactTreeSize', WHERE WHAT IT READS IS OF BULK AT MOST 1048576: true; the input reads as it did. -/
def fnExactTreeSizeUptoRow : OpenClaim := { program := "ytfalapoojmlbpaa", sum := "5690c7cd2b5e25ee35fb1c60941b4300ae4ef4125f2b6f0bb438a682e50aed7c", func := "loop.example/matchcompiler/laws.FnExactTreeSize", spec := "fnExactTreeSize", recurses := true, loops := true, apart := false, narrowed := true }
def FnExactTreeSizeUptoSaid : Prop := fnExactTreeSizeUptoRow.holds Try.pinned (OpenSpec.upto fnExactTreeSizeSpec)

end Rows
end Go.Proofs.Ytfalapoojmlbpaa
