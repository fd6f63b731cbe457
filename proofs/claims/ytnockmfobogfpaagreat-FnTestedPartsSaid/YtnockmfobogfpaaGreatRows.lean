/-
  NARROWER THAN 'FOR EVERY INPUT', by the rows' own cells (each row's printed sentence says how): FnExactTestedPaths: loops · FnExactForcedFirst: loops.
  DERIVED. THE GIVEN ROWS OF THIS SEAT. 3 by the template 'for every input the law returns true; each argument reads behind the call as it read before'; 0 by the template 'total and deterministic' (their statements: YtnockmfobogfpaaGreatTotals.lean).
  GIVEN WITH THE SEED: the statements are not yours to turn. If you find one false, say at which input.
  Laid BY PROGRAM, IN A SANDBOX (cutbox-rows.mjs): the forced cells as the released guide's own fill.sh prints them over the translation 61b4a8276c888dee… (all of the seat's roots in one cut). By AI agents, Wed Nov 11 2026. No macro, syntax, notation, axiom, sorry.
-/
import Derived.Test.YtnockmfobogfpaaGreatChecked
import GoSem.Claim
import GoSem.ClaimJoined
import GoSem.ClaimMapViews
import Derived.JoinedTies
import Derived.KernelRfl
namespace Go.Proofs.YtnockmfobogfpaaGreat
/- THE CELL 'sum', in the pinned program and in every row, IS THE sha256 OF THE DUMP (.gsa) THAT YtnockmfobogfpaaGreatProg.lean LOADS. Nothing in Lean hashes anything: it is a label: what it is worth is what the hold of that sum in a sandbox is worth. -/
noncomputable def Tryz.pinned : Pinned := { name := "ytnockmfobogfpaagreat", sum := "61b4a8276c888dee4d18036fa54f01c628e439212dd427b6a75d63216a6f0f03", checked := Tryz.checked }
namespace Rows
def none {H : Type} : Left H := { results := [], args := [] }

/-- 'laws.FnExactTestedPaths': WHATEVER THE INPUT: true; the input reads as it did. -/
def fnExactTestedPathsSpec : ChangeSpec := { name := "fnExactTestedPaths", fn := fun _ => fun
  | [d1, d2, d3, d4] => { results := [.lit (.bool true)], args := [d1, d2, d3, d4] }
  | _ => none }
def fnExactTestedPathsRow : OpenClaim := { program := "ytnockmfobogfpaagreat", sum := "61b4a8276c888dee4d18036fa54f01c628e439212dd427b6a75d63216a6f0f03", func := "loop.example/matchcompiler/laws.FnExactTestedPaths", spec := "fnExactTestedPaths", unfollowed := true, recurses := true, loops := true, apart := false }
def FnExactTestedPathsSaid : Prop := fnExactTestedPathsRow.holds Tryz.pinned (OpenSpec.ofChange fnExactTestedPathsSpec)

/-- ITS FALSE NEIGHBOUR: 'it returns false'. Refute it at one input. -/
def fnExactTestedPathsWrong : ChangeSpec := { name := "fnExactTestedPaths", fn := fun _ => fun
  | [d1, d2, d3, d4] => { results := [.lit (.bool false)], args := [d1, d2, d3, d4] }
  | _ => none }
def FnExactTestedPathsWrongFalsely : Prop := fnExactTestedPathsRow.holds Tryz.pinned (OpenSpec.ofChange fnExactTestedPathsWrong)

/-- 'laws.FnExactForcedFirst': WHATEVER THE INPUT: true; the input reads as it did. -/
def fnExactForcedFirstSpec : ChangeSpec := { name := "fnExactForcedFirst", fn := fun _ => fun
  | [d1, d2, d3, d4] => { results := [.lit (.bool true)], args := [d1, d2, d3, d4] }
  | _ => none }
def fnExactForcedFirstRow : OpenClaim := { program := "ytnockmfobogfpaagreat", sum := "61b4a8276c888dee4d18036fa54f01c628e439212dd427b6a75d63216a6f0f03", func := "loop.example/matchcompiler/laws.FnExactForcedFirst", spec := "fnExactForcedFirst", unfollowed := true, recurses := true, loops := true, apart := false }
def FnExactForcedFirstSaid : Prop := fnExactForcedFirstRow.holds Tryz.pinned (OpenSpec.ofChange fnExactForcedFirstSpec)

/-- ITS FALSE NEIGHBOUR: 'it returns false'. Refute it at one input. -/
def fnExactForcedFirstWrong : ChangeSpec := { name := "fnExactForcedFirst", fn := fun _ => fun
  | [d1, d2, d3, d4] => { results := [.lit (.bool false)], args := [d1, d2, d3, d4] }
  | _ => none }
def FnExactForcedFirstWrongFalsely : Prop := fnExactForcedFirstRow.holds Tryz.pinned (OpenSpec.ofChange fnExactForcedFirstWrong)

/-- 'laws.FnTestedParts': WHATEVER THE INPUT: true; the input reads as it did. -/
def fnTestedPartsSpec : ChangeSpec := { name := "fnTestedParts", fn := fun _ => fun
  | [d] => { results := [.lit (.bool true)], args := [d] }
  | _ => none }
def fnTestedPartsRow : OpenClaim := { program := "ytnockmfobogfpaagreat", sum := "61b4a8276c888dee4d18036fa54f01c628e439212dd427b6a75d63216a6f0f03", func := "loop.example/matchcompiler/laws.FnTestedParts", spec := "fnTestedParts", unfollowed := true, recurses := true, apart := false }
def FnTestedPartsSaid : Prop := fnTestedPartsRow.holds Tryz.pinned (OpenSpec.ofChange fnTestedPartsSpec)

/-- ITS FALSE NEIGHBOUR: 'it returns false'. Refute it at one input. -/
def fnTestedPartsWrong : ChangeSpec := { name := "fnTestedParts", fn := fun _ => fun
  | [d] => { results := [.lit (.bool false)], args := [d] }
  | _ => none }
def FnTestedPartsWrongFalsely : Prop := fnTestedPartsRow.holds Tryz.pinned (OpenSpec.ofChange fnTestedPartsWrong)

/- THE SECOND FORM. 'bulk': how many values and letters a reading holds, each counted each time it is reached (what is shared counts as often as it is met; a slice's spare places count too). A statement '..UptoSaid' is the law's where the arguments, and the package variables that the reading takes, are together of bulk at most 1048576: NARROWER than '..Said'. Prove '..Said' where nothing that the law and all that it calls make is longer than what came in: it says more and counts as full. Else prove '..UptoSaid'. A law counts once. -/
mutual
def uptoBulk {H : Type} : DataW H → Nat
  | .lit (.string bytes) => bytes.length + 1
  | .lit _ => 1
  | .nil => 1
  | .ptr d => uptoBulk d + 1
  | .slice elems spare => uptoBulkAll elems + uptoBulkAll spare + 1
  | .agg parts => uptoBulkAll parts + 1
  | .iface _ d => uptoBulk d + 1
  | .map entries => uptoBulkEntries entries + 1
  | .held _ => 1
def uptoBulkAll {H : Type} : List (DataW H) → Nat
  | [] => 0
  | d :: r => uptoBulk d + uptoBulkAll r
def uptoBulkEntries {H : Type} : List (Lit × DataW H) → Nat
  | [] => 0
  | x :: r => uptoBulkEntry x + uptoBulkEntries r
def uptoBulkEntry {H : Type} : Lit × DataW H → Nat
  | (.string bytes, d) => bytes.length + uptoBulk d + 1
  | (_, d) => uptoBulk d + 1
 end
def uptoSmall : (H : Type) → List (DataW H) → Bool := fun _ ds => decide (uptoBulkAll ds ≤ 1048576)
def OpenSpec.upto (s : _root_.Go.ChangeSpec) : _root_.Go.OpenSpec := { _root_.Go.OpenSpec.ofChange s with cond := some uptoSmall }

/-- 'laws.FnExactTestedPaths', WHERE WHAT IT READS IS OF BULK AT MOST 1048576: true; the input reads as it did. -/
def fnExactTestedPathsUptoRow : OpenClaim := { program := "ytnockmfobogfpaagreat", sum := "61b4a8276c888dee4d18036fa54f01c628e439212dd427b6a75d63216a6f0f03", func := "loop.example/matchcompiler/laws.FnExactTestedPaths", spec := "fnExactTestedPaths", unfollowed := true, recurses := true, loops := true, apart := false, narrowed := true }
def FnExactTestedPathsUptoSaid : Prop := fnExactTestedPathsUptoRow.holds Tryz.pinned (OpenSpec.upto fnExactTestedPathsSpec)

/-- 'laws.FnExactForcedFirst', WHERE WHAT IT READS IS OF BULK AT MOST 1048576: true; the input reads as it did. -/
def fnExactForcedFirstUptoRow : OpenClaim := { program := "ytnockmfobogfpaagreat", sum := "61b4a8276c888dee4d18036fa54f01c628e439212dd427b6a75d63216a6f0f03", func := "loop.example/matchcompiler/laws.FnExactForcedFirst", spec := "fnExactForcedFirst", unfollowed := true, recurses := true, loops := true, apart := false, narrowed := true }
def FnExactForcedFirstUptoSaid : Prop := fnExactForcedFirstUptoRow.holds Tryz.pinned (OpenSpec.upto fnExactForcedFirstSpec)

/-- 'laws.FnTestedParts', WHERE WHAT IT READS IS OF BULK AT MOST 1048576: true; the input reads as it did. -/
def fnTestedPartsUptoRow : OpenClaim := { program := "ytnockmfobogfpaagreat", sum := "61b4a8276c888dee4d18036fa54f01c628e439212dd427b6a75d63216a6f0f03", func := "loop.example/matchcompiler/laws.FnTestedParts", spec := "fnTestedParts", unfollowed := true, recurses := true, apart := false, narrowed := true }
def FnTestedPartsUptoSaid : Prop := fnTestedPartsUptoRow.holds Tryz.pinned (OpenSpec.upto fnTestedPartsSpec)

end Rows
end Go.Proofs.YtnockmfobogfpaaGreat
