/-
  NARROWER THAN 'FOR EVERY INPUT', by the rows' own cells (each row's printed sentence says how): FnExactExprValid: loops · FnExactEmptyPattern: loops · FnExactGuardNever: loops · FnExactExprOf: loops · FnExactMaskValue: loops.
  DERIVED. THE GIVEN ROWS OF THIS SEAT. 6 by the template 'for every input the law returns true; each argument reads behind the call as it read before'; 0 by the template 'total and deterministic' (their statements: YtelglbenbnkjmaaTotals.lean).
  GIVEN WITH THE SEED: the statements are not yours to turn. If you find one false, say at which input.
  Laid BY PROGRAM, IN A SANDBOX (cutbox-rows.mjs): the forced cells as the released guide's own fill.sh prints them over the translation 24770ae0d341e7d8… (all of the seat's roots in one cut). By AI agents, Wed Nov 11 2026. No macro, syntax, notation, axiom, sorry.
-/
import Derived.Test.YtelglbenbnkjmaaChecked
import GoSem.Claim
import GoSem.ClaimJoined
import GoSem.ClaimMapViews
import Derived.JoinedTies
import Derived.KernelRfl
namespace Go.Proofs.Ytelglbenbnkjmaa
/- THE CELL 'sum', in the pinned program and in every row, IS THE sha256 OF THE DUMP (.gsa) THAT YtelglbenbnkjmaaProg.lean LOADS. Nothing in Lean hashes anything: it is a label: what it is worth is what the hold of that sum in a sandbox is worth. -/
noncomputable def Try.pinned : Pinned := { name := "ytelglbenbnkjmaa", sum := "24770ae0d341e7d86e42994498dbe7ea2c58180bed10e7350327540753beee8a", checked := Try.checked }
namespace Rows
def none {H : Type} : Left H := { results := [], args := [] }

/-- 'laws.FnExactExprValid': WHATEVER THE INPUT: true; the input reads as it did. -/
def fnExactExprValidSpec : ChangeSpec := { name := "fnExactExprValid", fn := fun _ => fun
  | [d1, d2, d3, d4, d5] => { results := [.lit (.bool true)], args := [d1, d2, d3, d4, d5] }
  | _ => none }
def fnExactExprValidRow : OpenClaim := { program := "ytelglbenbnkjmaa", sum := "24770ae0d341e7d86e42994498dbe7ea2c58180bed10e7350327540753beee8a", func := "loop.example/matchcompiler/laws.FnExactExprValid", spec := "fnExactExprValid", unfollowed := true, recurses := true, loops := true, apart := false }
def FnExactExprValidSaid : Prop := fnExactExprValidRow.holds Try.pinned (OpenSpec.ofChange fnExactExprValidSpec)

/-- ITS FALSE NEIGHBOUR: 'it returns false'. Refute it at one input. -/
def fnExactExprValidWrong : ChangeSpec := { name := "fnExactExprValid", fn := fun _ => fun
  | [d1, d2, d3, d4, d5] => { results := [.lit (.bool false)], args := [d1, d2, d3, d4, d5] }
  | _ => none }
def FnExactExprValidWrongFalsely : Prop := fnExactExprValidRow.holds Try.pinned (OpenSpec.ofChange fnExactExprValidWrong)

/-- 'laws.FnExactEmptyPattern': WHATEVER THE INPUT: true; the input reads as it did. -/
def fnExactEmptyPatternSpec : ChangeSpec := { name := "fnExactEmptyPattern", fn := fun _ => fun
  | [d1, d2, d3] => { results := [.lit (.bool true)], args := [d1, d2, d3] }
  | _ => none }
def fnExactEmptyPatternRow : OpenClaim := { program := "ytelglbenbnkjmaa", sum := "24770ae0d341e7d86e42994498dbe7ea2c58180bed10e7350327540753beee8a", func := "loop.example/matchcompiler/laws.FnExactEmptyPattern", spec := "fnExactEmptyPattern", unfollowed := true, recurses := true, loops := true, apart := false }
def FnExactEmptyPatternSaid : Prop := fnExactEmptyPatternRow.holds Try.pinned (OpenSpec.ofChange fnExactEmptyPatternSpec)

/-- ITS FALSE NEIGHBOUR: 'it returns false'. Refute it at one input. -/
def fnExactEmptyPatternWrong : ChangeSpec := { name := "fnExactEmptyPattern", fn := fun _ => fun
  | [d1, d2, d3] => { results := [.lit (.bool false)], args := [d1, d2, d3] }
  | _ => none }
def FnExactEmptyPatternWrongFalsely : Prop := fnExactEmptyPatternRow.holds Try.pinned (OpenSpec.ofChange fnExactEmptyPatternWrong)

/-- 'laws.FnExactGuardNever': WHATEVER THE INPUT: true; the input reads as it did. -/
def fnExactGuardNeverSpec : ChangeSpec := { name := "fnExactGuardNever", fn := fun _ => fun
  | [d1, d2, d3] => { results := [.lit (.bool true)], args := [d1, d2, d3] }
  | _ => none }
def fnExactGuardNeverRow : OpenClaim := { program := "ytelglbenbnkjmaa", sum := "24770ae0d341e7d86e42994498dbe7ea2c58180bed10e7350327540753beee8a", func := "loop.example/matchcompiler/laws.FnExactGuardNever", spec := "fnExactGuardNever", unfollowed := true, recurses := true, loops := true, apart := false }
def FnExactGuardNeverSaid : Prop := fnExactGuardNeverRow.holds Try.pinned (OpenSpec.ofChange fnExactGuardNeverSpec)

/-- ITS FALSE NEIGHBOUR: 'it returns false'. Refute it at one input. -/
def fnExactGuardNeverWrong : ChangeSpec := { name := "fnExactGuardNever", fn := fun _ => fun
  | [d1, d2, d3] => { results := [.lit (.bool false)], args := [d1, d2, d3] }
  | _ => none }
def FnExactGuardNeverWrongFalsely : Prop := fnExactGuardNeverRow.holds Try.pinned (OpenSpec.ofChange fnExactGuardNeverWrong)

/-- 'laws.FnExprFits': WHATEVER THE INPUT: true; the input reads as it did. -/
def fnExprFitsSpec : ChangeSpec := { name := "fnExprFits", fn := fun _ => fun
  | [d] => { results := [.lit (.bool true)], args := [d] }
  | _ => none }
def fnExprFitsRow : OpenClaim := { program := "ytelglbenbnkjmaa", sum := "24770ae0d341e7d86e42994498dbe7ea2c58180bed10e7350327540753beee8a", func := "loop.example/matchcompiler/laws.FnExprFits", spec := "fnExprFits", unfollowed := true, recurses := true, apart := false }
def FnExprFitsSaid : Prop := fnExprFitsRow.holds Try.pinned (OpenSpec.ofChange fnExprFitsSpec)

/-- ITS FALSE NEIGHBOUR: 'it returns false'. Refute it at one input. -/
def fnExprFitsWrong : ChangeSpec := { name := "fnExprFits", fn := fun _ => fun
  | [d] => { results := [.lit (.bool false)], args := [d] }
  | _ => none }
def FnExprFitsWrongFalsely : Prop := fnExprFitsRow.holds Try.pinned (OpenSpec.ofChange fnExprFitsWrong)

/-- 'laws.FnExactExprOf': WHATEVER THE INPUT: true; the input reads as it did. -/
def fnExactExprOfSpec : ChangeSpec := { name := "fnExactExprOf", fn := fun _ => fun
  | [d1, d2, d3] => { results := [.lit (.bool true)], args := [d1, d2, d3] }
  | _ => none }
def fnExactExprOfRow : OpenClaim := { program := "ytelglbenbnkjmaa", sum := "24770ae0d341e7d86e42994498dbe7ea2c58180bed10e7350327540753beee8a", func := "loop.example/matchcompiler/laws.FnExactExprOf", spec := "fnExactExprOf", unfollowed := true, recurses := true, loops := true, apart := false }
def FnExactExprOfSaid : Prop := fnExactExprOfRow.holds Try.pinned (OpenSpec.ofChange fnExactExprOfSpec)

/-- ITS FALSE NEIGHBOUR: 'it returns false'. Refute it at one input. -/
def fnExactExprOfWrong : ChangeSpec := { name := "fnExactExprOf", fn := fun _ => fun
  | [d1, d2, d3] => { results := [.lit (.bool false)], args := [d1, d2, d3] }
  | _ => none }
def FnExactExprOfWrongFalsely : Prop := fnExactExprOfRow.holds Try.pinned (OpenSpec.ofChange fnExactExprOfWrong)

/-- 'laws.FnExactMaskValue': WHATEVER THE INPUT: true; the input reads as it did. -/
def fnExactMaskValueSpec : ChangeSpec := { name := "fnExactMaskValue", fn := fun _ => fun
  | [d1, d2, d3, d4] => { results := [.lit (.bool true)], args := [d1, d2, d3, d4] }
  | _ => none }
def fnExactMaskValueRow : OpenClaim := { program := "ytelglbenbnkjmaa", sum := "24770ae0d341e7d86e42994498dbe7ea2c58180bed10e7350327540753beee8a", func := "loop.example/matchcompiler/laws.FnExactMaskValue", spec := "fnExactMaskValue", unfollowed := true, recurses := true, loops := true, apart := false }
def FnExactMaskValueSaid : Prop := fnExactMaskValueRow.holds Try.pinned (OpenSpec.ofChange fnExactMaskValueSpec)

/-- ITS FALSE NEIGHBOUR: 'it returns false'. Refute it at one input. -/
def fnExactMaskValueWrong : ChangeSpec := { name := "fnExactMaskValue", fn := fun _ => fun
  | [d1, d2, d3, d4] => { results := [.lit (.bool false)], args := [d1, d2, d3, d4] }
  | _ => none }
def FnExactMaskValueWrongFalsely : Prop := fnExactMaskValueRow.holds Try.pinned (OpenSpec.ofChange fnExactMaskValueWrong)

/- THE SECOND FORM. 'bulk': how many values and letters a reading holds, each counted each time it is reached (what is shared counts as often as it is met; a slice's spare places count too). A statement '..UptoSaid' is the law's where the arguments, and the package variables that the reading takes, are together of bulk at most 1048576: NARROWER than '..Said'. Prove '..Said' where nothing that the law and all that it calls make is longer than what came in: it says more and counts as full. Else prove '..UptoSaid'. A law counts once. -/
mutual
def uptoBulk {H : Type} : DataW H → Nat
  | .lit (.string bytes) => bytes.length + 1
  | .lit _ => 1
  | .nil => 1
  | .ptr d => uptoBulk d + 1
  | .slice elems spare => uptoBulkAll elems + uptoBulkAll spare + 1
  | .agg parts => uptoBulkAll parts + 1
  | .iface _ d => uptoBulk d + 1
  | .map entries => uptoBulkEntries entries + 1
  | .held _ => 1
def uptoBulkAll {H : Type} : List (DataW H) → Nat
  | [] => 0
  | d :: r => uptoBulk d + uptoBulkAll r
def uptoBulkEntries {H : Type} : List (Lit × DataW H) → Nat
  | [] => 0
  | x :: r => uptoBulkEntry x + uptoBulkEntries r
def uptoBulkEntry {H : Type} : Lit × DataW H → Nat
  | (.string bytes, d) => bytes.length + uptoBulk d + 1
  | (_, d) => uptoBulk d + 1
 end
def uptoSmall : (H : Type) → List (DataW H) → Bool := fun _ ds => decide (uptoBulkAll ds ≤ 1048576)
def OpenSpec.upto (s : _root_.Go.ChangeSpec) : _root_.Go.OpenSpec := { _root_.Go.OpenSpec.ofChange s with cond := some uptoSmall }

/-- 'laws.FnExactExprValid', WHERE WHAT IT READS IS OF BULK AT MOST 1048576: true; the input reads as it did. -/
def fnExactExprValidUptoRow : OpenClaim := { program := "ytelglbenbnkjmaa", sum := "24770ae0d341e7d86e42994498dbe7ea2c58180bed10e7350327540753beee8a", func := "loop.example/matchcompiler/laws.FnExactExprValid", spec := "fnExactExprValid", unfollowed := true, recurses := true, loops := true, apart := false, narrowed := true }
def FnExactExprValidUptoSaid : Prop := fnExactExprValidUptoRow.holds Try.pinned (OpenSpec.upto fnExactExprValidSpec)

/-- 'laws.FnExactEmptyPattern', WHERE WHAT IT READS IS OF BULK AT MOST 1048576: true; the input reads as it did. -/
def fnExactEmptyPatternUptoRow : OpenClaim := { program := "ytelglbenbnkjmaa", sum := "24770ae0d341e7d86e42994498dbe7ea2c58180bed10e7350327540753beee8a", func := "loop.example/matchcompiler/laws.FnExactEmptyPattern", spec := "fnExactEmptyPattern", unfollowed := true, recurses := true, loops := true, apart := false, narrowed := true }
def FnExactEmptyPatternUptoSaid : Prop := fnExactEmptyPatternUptoRow.holds Try.pinned (OpenSpec.upto fnExactEmptyPatternSpec)

/-- 'laws.FnExactGuardNever', WHERE WHAT IT READS IS OF BULK AT MOST 1048576: true; the input reads as it did. -/
def fnExactGuardNeverUptoRow : OpenClaim := { program := "ytelglbenbnkjmaa", sum := "24770ae0d341e7d86e42994498dbe7ea2c58180bed10e7350327540753beee8a", func := "loop.example/matchcompiler/laws.FnExactGuardNever", spec := "fnExactGuardNever", unfollowed := true, recurses := true, loops := true, apart := false, narrowed := true }
def FnExactGuardNeverUptoSaid : Prop := fnExactGuardNeverUptoRow.holds Try.pinned (OpenSpec.upto fnExactGuardNeverSpec)

/-- 'laws.FnExprFits', WHERE WHAT IT READS IS OF BULK AT MOST 1048576: true; the input reads as it did. -/
def fnExprFitsUptoRow : OpenClaim := { program := "ytelglbenbnkjmaa", sum := "24770ae0d341e7d86e42994498dbe7ea2c58180bed10e7350327540753beee8a", func := "loop.example/matchcompiler/laws.FnExprFits", spec := "fnExprFits", unfollowed := true, recurses := true, apart := false, narrowed := true }
def FnExprFitsUptoSaid : Prop := fnExprFitsUptoRow.holds Try.pinned (OpenSpec.upto fnExprFitsSpec)

/-- 'laws.FnExactExprOf', WHERE WHAT IT READS IS OF BULK AT MOST 1048576: true; the input reads as it did. -/
def fnExactExprOfUptoRow : OpenClaim := { program := "ytelglbenbnkjmaa", sum := "24770ae0d341e7d86e42994498dbe7ea2c58180bed10e7350327540753beee8a", func := "loop.example/matchcompiler/laws.FnExactExprOf", spec := "fnExactExprOf", unfollowed := true, recurses := true, loops := true, apart := false, narrowed := true }
def FnExactExprOfUptoSaid : Prop := fnExactExprOfUptoRow.holds Try.pinned (OpenSpec.upto fnExactExprOfSpec)

/-- 'laws.FnExactMaskValue', WHERE WHAT IT READS IS OF BULK AT MOST 1048576: true; the input reads as it did. -/
def fnExactMaskValueUptoRow : OpenClaim := { program := "ytelglbenbnkjmaa", sum := "24770ae0d341e7d86e42994498dbe7ea2c58180bed10e7350327540753beee8a", func := "loop.example/matchcompiler/laws.FnExactMaskValue", spec := "fnExactMaskValue", unfollowed := true, recurses := true, loops := true, apart := false, narrowed := true }
def FnExactMaskValueUptoSaid : Prop := fnExactMaskValueUptoRow.holds Try.pinned (OpenSpec.upto fnExactMaskValueSpec)

end Rows
end Go.Proofs.Ytelglbenbnkjmaa
