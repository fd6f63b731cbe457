/-
  NARROWER THAN 'FOR EVERY INPUT', by the rows' own cells (each row's printed sentence says how): FnExactSimplifyPattern: loops · FnExactGuardPattern: loops · FnExactSamplePattern: loops · FnExactCompileSteps: loops.
  DERIVED. THE GIVEN ROWS OF THIS SEAT. 4 by the template 'for every input the law returns true; each argument reads behind the call as it read before'; 0 by the template 'total and deterministic' (their statements: YtfiegdkhobmbaaaGreatTotals.lean).
  GIVEN WITH THE SEED: the statements are not yours to turn. If you find one false, say at which input.
  Laid BY PROGRAM, IN A SANDBOX (cutbox-rows.mjs): the forced cells as the released guide's own fill.sh prints them over the translation 1676f366c3f7106d… (all of the seat's roots in one cut). By AI agents, Wed Nov 11 2026. No macro, syntax, notation, axiom, sorry.
-/
import Derived.Test.YtfiegdkhobmbaaaGreatChecked
import GoSem.Claim
import GoSem.ClaimJoined
import GoSem.ClaimMapViews
import Derived.JoinedTies
import Derived.KernelRfl
namespace Go.Proofs.YtfiegdkhobmbaaaGreat
/- THE CELL 'sum', in the pinned program and in every row, IS THE sha256 OF THE DUMP (.gsa) THAT YtfiegdkhobmbaaaGreatProg.lean LOADS. Nothing in Lean hashes anything: it is a label: what it is worth is what the hold of that sum in a sandbox is worth. -/
noncomputable def Tryz.pinned : Pinned := { name := "ytfiegdkhobmbaaagreat", sum := "1676f366c3f7106daab9c15ea98fd83bd35209c04768ef14523fcd28f3ecffd6", checked := Tryz.checked }
namespace Rows
def none {H : Type} : Left H := { results := [], args := [] }

/-- 'laws.FnExactSimplifyPattern': WHATEVER THE INPUT: true; the input reads as it did. -/
def fnExactSimplifyPatternSpec : ChangeSpec := { name := "fnExactSimplifyPattern", fn := fun _ => fun
  | [d1, d2, d3] => { results := [.lit (.bool true)], args := [d1, d2, d3] }
  | _ => none }
def fnExactSimplifyPatternRow : OpenClaim := { program := "ytfiegdkhobmbaaagreat", sum := "1676f366c3f7106daab9c15ea98fd83bd35209c04768ef14523fcd28f3ecffd6", func := "loop.example/matchcompiler/laws.FnExactSimplifyPattern", spec := "fnExactSimplifyPattern", unfollowed := true, recurses := true, loops := true, apart := false }
def FnExactSimplifyPatternSaid : Prop := fnExactSimplifyPatternRow.holds Tryz.pinned (OpenSpec.ofChange fnExactSimplifyPatternSpec)

/-- ITS FALSE NEIGHBOUR: 'it returns false'. Refute it at one input. -/
def fnExactSimplifyPatternWrong : ChangeSpec := { name := "fnExactSimplifyPattern", fn := fun _ => fun
  | [d1, d2, d3] => { results := [.lit (.bool false)], args := [d1, d2, d3] }
  | _ => none }
def FnExactSimplifyPatternWrongFalsely : Prop := fnExactSimplifyPatternRow.holds Tryz.pinned (OpenSpec.ofChange fnExactSimplifyPatternWrong)

/-- 'laws.FnExactGuardPattern': WHATEVER THE INPUT: true; the input reads as it did. -/
def fnExactGuardPatternSpec : ChangeSpec := { name := "fnExactGuardPattern", fn := fun _ => fun
  | [d1, d2, d3] => { results := [.lit (.bool true)], args := [d1, d2, d3] }
  | _ => none }
def fnExactGuardPatternRow : OpenClaim := { program := "ytfiegdkhobmbaaagreat", sum := "1676f366c3f7106daab9c15ea98fd83bd35209c04768ef14523fcd28f3ecffd6", func := "loop.example/matchcompiler/laws.FnExactGuardPattern", spec := "fnExactGuardPattern", unfollowed := true, recurses := true, loops := true, apart := false }
def FnExactGuardPatternSaid : Prop := fnExactGuardPatternRow.holds Tryz.pinned (OpenSpec.ofChange fnExactGuardPatternSpec)

/-- ITS FALSE NEIGHBOUR: 'it returns false'. Refute it at one input. -/
def fnExactGuardPatternWrong : ChangeSpec := { name := "fnExactGuardPattern", fn := fun _ => fun
  | [d1, d2, d3] => { results := [.lit (.bool false)], args := [d1, d2, d3] }
  | _ => none }
def FnExactGuardPatternWrongFalsely : Prop := fnExactGuardPatternRow.holds Tryz.pinned (OpenSpec.ofChange fnExactGuardPatternWrong)

/-- 'laws.FnExactSamplePattern': WHATEVER THE INPUT: true; the input reads as it did. -/
def fnExactSamplePatternSpec : ChangeSpec := { name := "fnExactSamplePattern", fn := fun _ => fun
  | [d1, d2, d3] => { results := [.lit (.bool true)], args := [d1, d2, d3] }
  | _ => none }
def fnExactSamplePatternRow : OpenClaim := { program := "ytfiegdkhobmbaaagreat", sum := "1676f366c3f7106daab9c15ea98fd83bd35209c04768ef14523fcd28f3ecffd6", func := "loop.example/matchcompiler/laws.FnExactSamplePattern", spec := "fnExactSamplePattern", unfollowed := true, recurses := true, loops := true, apart := false }
def FnExactSamplePatternSaid : Prop := fnExactSamplePatternRow.holds Tryz.pinned (OpenSpec.ofChange fnExactSamplePatternSpec)

/-- ITS FALSE NEIGHBOUR: 'it returns false'. Refute it at one input. -/
def fnExactSamplePatternWrong : ChangeSpec := { name := "fnExactSamplePattern", fn := fun _ => fun
  | [d1, d2, d3] => { results := [.lit (.bool false)], args := [d1, d2, d3] }
  | _ => none }
def FnExactSamplePatternWrongFalsely : Prop := fnExactSamplePatternRow.holds Tryz.pinned (OpenSpec.ofChange fnExactSamplePatternWrong)

/-- 'laws.FnExactCompileSteps': WHATEVER THE INPUT: true; the input reads as it did. -/
def fnExactCompileStepsSpec : ChangeSpec := { name := "fnExactCompileSteps", fn := fun _ => fun
  | [d1, d2, d3] => { results := [.lit (.bool true)], args := [d1, d2, d3] }
  | _ => none }
def fnExactCompileStepsRow : OpenClaim := { program := "ytfiegdkhobmbaaagreat", sum := "1676f366c3f7106daab9c15ea98fd83bd35209c04768ef14523fcd28f3ecffd6", func := "loop.example/matchcompiler/laws.FnExactCompileSteps", spec := "fnExactCompileSteps", unfollowed := true, recurses := true, loops := true, apart := false }
def FnExactCompileStepsSaid : Prop := fnExactCompileStepsRow.holds Tryz.pinned (OpenSpec.ofChange fnExactCompileStepsSpec)

/-- ITS FALSE NEIGHBOUR: 'it returns false'. Refute it at one input. -/
def fnExactCompileStepsWrong : ChangeSpec := { name := "fnExactCompileSteps", fn := fun _ => fun
  | [d1, d2, d3] => { results := [.lit (.bool false)], args := [d1, d2, d3] }
  | _ => none }
def FnExactCompileStepsWrongFalsely : Prop := fnExactCompileStepsRow.holds Tryz.pinned (OpenSpec.ofChange fnExactCompileStepsWrong)

/- THE SECOND FORM. 'bulk': how many values and letters a reading holds, each counted each time it is reached (what is shared counts as often as it is met; a slice's spare places count too). A statement '..UptoSaid' is the law's where the arguments, and the package variables that the reading takes, are together of bulk at most 1048576: NARROWER than '..Said'. Prove '..Said' where nothing that the law and all that it calls make is longer than what came in: it says more and counts as full. Else prove '..UptoSaid'. A law counts once. -/
mutual
def uptoBulk {H : Type} : DataW H → Nat
  | .lit (.string bytes) => bytes.length + 1
  | .lit _ => 1
  | .nil => 1
  | .ptr d => uptoBulk d + 1
  | .slice elems spare => uptoBulkAll elems + uptoBulkAll spare + 1
  | .agg parts => uptoBulkAll parts + 1
  | .iface _ d => uptoBulk d + 1
  | .map entries => uptoBulkEntries entries + 1
  | .held _ => 1
def uptoBulkAll {H : Type} : List (DataW H) → Nat
  | [] => 0
  | d :: r => uptoBulk d + uptoBulkAll r
def uptoBulkEntries {H : Type} : List (Lit × DataW H) → Nat
  | [] => 0
  | x :: r => uptoBulkEntry x + uptoBulkEntries r
def uptoBulkEntry {H : Type} : Lit × DataW H → Nat
  | (.string bytes, d) => bytes.length + uptoBulk d + 1
  | (_, d) => uptoBulk d + 1
 end
def uptoSmall : (H : Type) → List (DataW H) → Bool := fun _ ds => decide (uptoBulkAll ds ≤ 1048576)
def OpenSpec.upto (s : _root_.Go.ChangeSpec) : _root_.Go.OpenSpec := { _root_.Go.OpenSpec.ofChange s with cond := some uptoSmall }

/-- 'laws.FnExactSimplifyPattern', WHERE WHAT IT READS IS OF BULK AT MOST 1048576: true; the input reads as it did. -/
def fnExactSimplifyPatternUptoRow : OpenClaim := { program := "ytfiegdkhobmbaaagreat", sum := "1676f366c3f7106daab9c15ea98fd83bd35209c04768ef14523fcd28f3ecffd6", func := "loop.example/matchcompiler/laws.FnExactSimplifyPattern", spec := "fnExactSimplifyPattern", unfollowed := true, recurses := true, loops := true, apart := false, narrowed := true }
def FnExactSimplifyPatternUptoSaid : Prop := fnExactSimplifyPatternUptoRow.holds Tryz.pinned (OpenSpec.upto fnExactSimplifyPatternSpec)

/-- 'laws.FnExactGuardPattern', WHERE WHAT IT READS IS OF BULK AT MOST 1048576: true; the input reads as it did. -/
def fnExactGuardPatternUptoRow : OpenClaim := { program := "ytfiegdkhobmbaaagreat", sum := "1676f366c3f7106daab9c15ea98fd83bd35209c04768ef14523fcd28f3ecffd6", func := "loop.example/matchcompiler/laws.FnExactGuardPattern", spec := "fnExactGuardPattern", unfollowed := true, recurses := true, loops := true, apart := false, narrowed := true }
def FnExactGuardPatternUptoSaid : Prop := fnExactGuardPatternUptoRow.holds Tryz.pinned (OpenSpec.upto fnExactGuardPatternSpec)

/-- 'laws.FnExactSamplePattern', WHERE WHAT IT READS IS OF BULK AT MOST 1048576: true; the input reads as it did. -/
def fnExactSamplePatternUptoRow : OpenClaim := { program := "ytfiegdkhobmbaaagreat", sum := "1676f366c3f7106daab9c15ea98fd83bd35209c04768ef14523fcd28f3ecffd6", func := "loop.example/matchcompiler/laws.FnExactSamplePattern", spec := "fnExactSamplePattern", unfollowed := true, recurses := true, loops := true, apart := false, narrowed := true }
def FnExactSamplePatternUptoSaid : Prop := fnExactSamplePatternUptoRow.holds Tryz.pinned (OpenSpec.upto fnExactSamplePatternSpec)

/-- 'laws.FnExactCompileSteps', WHERE WHAT IT READS IS OF BULK AT MOST 1048576: true; the input reads as it did. -/
def fnExactCompileStepsUptoRow : OpenClaim := { program := "ytfiegdkhobmbaaagreat", sum := "1676f366c3f7106daab9c15ea98fd83bd35209c04768ef14523fcd28f3ecffd6", func := "loop.example/matchcompiler/laws.FnExactCompileSteps", spec := "fnExactCompileSteps", unfollowed := true, recurses := true, loops := true, apart := false, narrowed := true }
def FnExactCompileStepsUptoSaid : Prop := fnExactCompileStepsUptoRow.holds Tryz.pinned (OpenSpec.upto fnExactCompileStepsSpec)

end Rows
end Go.Proofs.YtfiegdkhobmbaaaGreat
