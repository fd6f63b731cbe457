/-
  No cell of these rows narrows 'for every input' (looked for: loops, veiled, ifaces, maps, wideKeys, modest, calm, conditions, laid).
  DERIVED. THE GIVEN ROWS OF THIS SEAT. 5 by the template 'for every input the law returns true; each argument reads behind the call as it read before'; 0 by the template 'total and deterministic' (their statements: YtkgcopogpmckdaaGreatTotals.lean).
  GIVEN WITH THE SEED: the statements are not yours to turn. If you find one false, say at which input.
  Laid BY PROGRAM, IN A SANDBOX (cutbox-rows.mjs): the forced cells as the released guide's own fill.sh prints them over the translation 40a5db603276fd34… (all of the seat's roots in one cut). By AI agents, Wed Nov 11 2026. No macro, syntax, notation, axiom, sorry.
-/
import Derived.Test.YtkgcopogpmckdaaGreatChecked
import GoSem.Claim
import GoSem.ClaimJoined
import GoSem.ClaimMapViews
import Derived.JoinedTies
import Derived.KernelRfl
namespace Go.Proofs.YtkgcopogpmckdaaGreat
/- THE CELL 'sum', in the pinned program and in every row, IS THE sha256 OF THE DUMP (.gsa) THAT YtkgcopogpmckdaaGreatProg.lean LOADS. Nothing in Lean hashes anything: it is a label: what it is worth is what the hold of that sum in a sandbox is worth. -/
noncomputable def Tryz.pinned : Pinned := { name := "ytkgcopogpmckdaagreat", sum := "40a5db603276fd34f4442e7ef90caca5599525647c73db26a2f1f0d37ea33c44", checked := Tryz.checked }
namespace Rows
def none {H : Type} : Left H := { results := [], args := [] }

/-- 'laws.FnGuardFree': WHATEVER THE INPUT: true; the input reads as it did. -/
def fnGuardFreeSpec : ChangeSpec := { name := "fnGuardFree", fn := fun _ => fun
  | [d] => { results := [.lit (.bool true)], args := [d] }
  | _ => none }
def fnGuardFreeRow : OpenClaim := { program := "ytkgcopogpmckdaagreat", sum := "40a5db603276fd34f4442e7ef90caca5599525647c73db26a2f1f0d37ea33c44", func := "loop.example/matchcompiler/laws.FnGuardFree", spec := "fnGuardFree", unfollowed := true, recurses := true, apart := false }
def FnGuardFreeSaid : Prop := fnGuardFreeRow.holds Tryz.pinned (OpenSpec.ofChange fnGuardFreeSpec)

/-- ITS FALSE NEIGHBOUR: 'it returns false'. Refute it at one input. -/
def fnGuardFreeWrong : ChangeSpec := { name := "fnGuardFree", fn := fun _ => fun
  | [d] => { results := [.lit (.bool false)], args := [d] }
  | _ => none }
def FnGuardFreeWrongFalsely : Prop := fnGuardFreeRow.holds Tryz.pinned (OpenSpec.ofChange fnGuardFreeWrong)

/-- 'laws.FnSimplifySize': WHATEVER THE INPUT: true; the input reads as it did. -/
def fnSimplifySizeSpec : ChangeSpec := { name := "fnSimplifySize", fn := fun _ => fun
  | [d] => { results := [.lit (.bool true)], args := [d] }
  | _ => none }
def fnSimplifySizeRow : OpenClaim := { program := "ytkgcopogpmckdaagreat", sum := "40a5db603276fd34f4442e7ef90caca5599525647c73db26a2f1f0d37ea33c44", func := "loop.example/matchcompiler/laws.FnSimplifySize", spec := "fnSimplifySize", unfollowed := true, recurses := true, apart := false }
def FnSimplifySizeSaid : Prop := fnSimplifySizeRow.holds Tryz.pinned (OpenSpec.ofChange fnSimplifySizeSpec)

/-- ITS FALSE NEIGHBOUR: 'it returns false'. Refute it at one input. -/
def fnSimplifySizeWrong : ChangeSpec := { name := "fnSimplifySize", fn := fun _ => fun
  | [d] => { results := [.lit (.bool false)], args := [d] }
  | _ => none }
def FnSimplifySizeWrongFalsely : Prop := fnSimplifySizeRow.holds Tryz.pinned (OpenSpec.ofChange fnSimplifySizeWrong)

/-- 'laws.FnShareTwice': WHATEVER THE INPUT: true; the input reads as it did. -/
def fnShareTwiceSpec : ChangeSpec := { name := "fnShareTwice", fn := fun _ => fun
  | [d] => { results := [.lit (.bool true)], args := [d] }
  | _ => none }
def fnShareTwiceRow : OpenClaim := { program := "ytkgcopogpmckdaagreat", sum := "40a5db603276fd34f4442e7ef90caca5599525647c73db26a2f1f0d37ea33c44", func := "loop.example/matchcompiler/laws.FnShareTwice", spec := "fnShareTwice", unfollowed := true, recurses := true, apart := false }
def FnShareTwiceSaid : Prop := fnShareTwiceRow.holds Tryz.pinned (OpenSpec.ofChange fnShareTwiceSpec)

/-- ITS FALSE NEIGHBOUR: 'it returns false'. Refute it at one input. -/
def fnShareTwiceWrong : ChangeSpec := { name := "fnShareTwice", fn := fun _ => fun
  | [d] => { results := [.lit (.bool false)], args := [d] }
  | _ => none }
def FnShareTwiceWrongFalsely : Prop := fnShareTwiceRow.holds Tryz.pinned (OpenSpec.ofChange fnShareTwiceWrong)

/-- 'laws.FnShareTree': WHATEVER THE INPUT: true; the input reads as it did. -/
def fnShareTreeSpec : ChangeSpec := { name := "fnShareTree", fn := fun _ => fun
  | [d] => { results := [.lit (.bool true)], args := [d] }
  | _ => none }
def fnShareTreeRow : OpenClaim := { program := "ytkgcopogpmckdaagreat", sum := "40a5db603276fd34f4442e7ef90caca5599525647c73db26a2f1f0d37ea33c44", func := "loop.example/matchcompiler/laws.FnShareTree", spec := "fnShareTree", unfollowed := true, recurses := true, apart := false }
def FnShareTreeSaid : Prop := fnShareTreeRow.holds Tryz.pinned (OpenSpec.ofChange fnShareTreeSpec)

/-- ITS FALSE NEIGHBOUR: 'it returns false'. Refute it at one input. -/
def fnShareTreeWrong : ChangeSpec := { name := "fnShareTree", fn := fun _ => fun
  | [d] => { results := [.lit (.bool false)], args := [d] }
  | _ => none }
def FnShareTreeWrongFalsely : Prop := fnShareTreeRow.holds Tryz.pinned (OpenSpec.ofChange fnShareTreeWrong)

/-- 'laws.FnSharedTests': WHATEVER THE INPUT: true; the input reads as it did. -/
def fnSharedTestsSpec : ChangeSpec := { name := "fnSharedTests", fn := fun _ => fun
  | [d] => { results := [.lit (.bool true)], args := [d] }
  | _ => none }
def fnSharedTestsRow : OpenClaim := { program := "ytkgcopogpmckdaagreat", sum := "40a5db603276fd34f4442e7ef90caca5599525647c73db26a2f1f0d37ea33c44", func := "loop.example/matchcompiler/laws.FnSharedTests", spec := "fnSharedTests", unfollowed := true, recurses := true, apart := false }
def FnSharedTestsSaid : Prop := fnSharedTestsRow.holds Tryz.pinned (OpenSpec.ofChange fnSharedTestsSpec)

/-- ITS FALSE NEIGHBOUR: 'it returns false'. Refute it at one input. -/
def fnSharedTestsWrong : ChangeSpec := { name := "fnSharedTests", fn := fun _ => fun
  | [d] => { results := [.lit (.bool false)], args := [d] }
  | _ => none }
def FnSharedTestsWrongFalsely : Prop := fnSharedTestsRow.holds Tryz.pinned (OpenSpec.ofChange fnSharedTestsWrong)

/- THE SECOND FORM. 'bulk': how many values and letters a reading holds, each counted each time it is reached (what is shared counts as often as it is met; a slice's spare places count too). A statement '..UptoSaid' is the law's where the arguments, and the package variables that the reading takes, are together of bulk at most 1048576: NARROWER than '..Said'. Prove '..Said' where nothing that the law and all that it calls make is longer than what came in: it says more and counts as full. Else prove '..UptoSaid'. A law counts once. -/
mutual
def uptoBulk {H : Type} : DataW H → Nat
  | .lit (.string bytes) => bytes.length + 1
  | .lit _ => 1
  | .nil => 1
  | .ptr d => uptoBulk d + 1
  | .slice elems spare => uptoBulkAll elems + uptoBulkAll spare + 1
  | .agg parts => uptoBulkAll parts + 1
  | .iface _ d => uptoBulk d + 1
  | .map entries => uptoBulkEntries entries + 1
  | .held _ => 1
def uptoBulkAll {H : Type} : List (DataW H) → Nat
  | [] => 0
  | d :: r => uptoBulk d + uptoBulkAll r
def uptoBulkEntries {H : Type} : List (Lit × DataW H) → Nat
  | [] => 0
  | x :: r => uptoBulkEntry x + uptoBulkEntries r
def uptoBulkEntry {H : Type} : Lit × DataW H → Nat
  | (.string bytes, d) => bytes.length + uptoBulk d + 1
  | (_, d) => uptoBulk d + 1
 end
def uptoSmall : (H : Type) → List (DataW H) → Bool := fun _ ds => decide (uptoBulkAll ds ≤ 1048576)
def OpenSpec.upto (s : _root_.Go.ChangeSpec) : _root_.Go.OpenSpec := { _root_.Go.OpenSpec.ofChange s with cond := some uptoSmall }

/-- 'laws.FnGuardFree', WHERE WHAT IT READS IS OF BULK AT MOST 1048576: true; the input reads as it did. -/
def fnGuardFreeUptoRow : OpenClaim := { program := "ytkgcopogpmckdaagreat", sum := "40a5db603276fd34f4442e7ef90caca5599525647c73db26a2f1f0d37ea33c44", func := "loop.example/matchcompiler/laws.FnGuardFree", spec := "fnGuardFree", unfollowed := true, recurses := true, apart := false, narrowed := true }
def FnGuardFreeUptoSaid : Prop := fnGuardFreeUptoRow.holds Tryz.pinned (OpenSpec.upto fnGuardFreeSpec)

/-- 'laws.FnSimplifySize', WHERE WHAT IT READS IS OF BULK AT MOST 1048576: true; the input reads as it did. -/
def fnSimplifySizeUptoRow : OpenClaim := { program := "ytkgcopogpmckdaagreat", sum := "40a5db603276fd34f4442e7ef90caca5599525647c73db26a2f1f0d37ea33c44", func := "loop.example/matchcompiler/laws.FnSimplifySize", spec := "fnSimplifySize", unfollowed := true, recurses := true, apart := false, narrowed := true }
def FnSimplifySizeUptoSaid : Prop := fnSimplifySizeUptoRow.holds Tryz.pinned (OpenSpec.upto fnSimplifySizeSpec)

/-- 'laws.FnShareTwice', WHERE WHAT IT READS IS OF BULK AT MOST 1048576: true; the input reads as it did. -/
def fnShareTwiceUptoRow : OpenClaim := { program := "ytkgcopogpmckdaagreat", sum := "40a5db603276fd34f4442e7ef90caca5599525647c73db26a2f1f0d37ea33c44", func := "loop.example/matchcompiler/laws.FnShareTwice", spec := "fnShareTwice", unfollowed := true, recurses := true, apart := false, narrowed := true }
def FnShareTwiceUptoSaid : Prop := fnShareTwiceUptoRow.holds Tryz.pinned (OpenSpec.upto fnShareTwiceSpec)

/-- 'laws.FnShareTree', WHERE WHAT IT READS IS OF BULK AT MOST 1048576: true; the input reads as it did. -/
def fnShareTreeUptoRow : OpenClaim := { program := "ytkgcopogpmckdaagreat", sum := "40a5db603276fd34f4442e7ef90caca5599525647c73db26a2f1f0d37ea33c44", func := "loop.example/matchcompiler/laws.FnShareTree", spec := "fnShareTree", unfollowed := true, recurses := true, apart := false, narrowed := true }
def FnShareTreeUptoSaid : Prop := fnShareTreeUptoRow.holds Tryz.pinned (OpenSpec.upto fnShareTreeSpec)

/-- 'laws.FnSharedTests', WHERE WHAT IT READS IS OF BULK AT MOST 1048576: true; the input reads as it did. -/
def fnSharedTestsUptoRow : OpenClaim := { program := "ytkgcopogpmckdaagreat", sum := "40a5db603276fd34f4442e7ef90caca5599525647c73db26a2f1f0d37ea33c44", func := "loop.example/matchcompiler/laws.FnSharedTests", spec := "fnSharedTests", unfollowed := true, recurses := true, apart := false, narrowed := true }
def FnSharedTestsUptoSaid : Prop := fnSharedTestsUptoRow.holds Tryz.pinned (OpenSpec.upto fnSharedTestsSpec)

end Rows
end Go.Proofs.YtkgcopogpmckdaaGreat
