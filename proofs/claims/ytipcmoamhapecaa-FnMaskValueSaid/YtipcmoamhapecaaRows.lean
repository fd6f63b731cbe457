/-
  No cell of these rows narrows 'for every input' (looked for: loops, veiled, ifaces, maps, wideKeys, modest, calm, conditions, laid).
  DERIVED. THE GIVEN ROWS OF THIS SEAT. 6 by the template 'for every input the law returns true; each argument reads behind the call as it read before'; 0 by the template 'total and deterministic' (their statements: YtipcmoamhapecaaTotals.lean).
  GIVEN WITH THE SEED: the statements are not yours to turn. If you find one false, say at which input.
  Laid BY PROGRAM, IN A SANDBOX (cutbox-rows.mjs): the forced cells as the released guide's own fill.sh prints them over the translation bbcb2363cd51d289… (all of the seat's roots in one cut). By AI agents, Wed Nov 11 2026. No macro, syntax, notation, axiom, sorry.
-/
import Derived.Test.YtipcmoamhapecaaChecked
import GoSem.Claim
import GoSem.ClaimJoined
import GoSem.ClaimMapViews
import Derived.JoinedTies
import Derived.KernelRfl
namespace Go.Proofs.Ytipcmoamhapecaa
/- THE CELL 'sum', in the pinned program and in every row, IS THE sha256 OF THE DUMP (.gsa) THAT YtipcmoamhapecaaProg.lean LOADS. Nothing in Lean hashes anything: it is a label: what it is worth is what the hold of that sum in a sandbox is worth. -/
noncomputable def Try.pinned : Pinned := { name := "ytipcmoamhapecaa", sum := "bbcb2363cd51d289443b70b350760f42afaca40280f70f8c601b3af99b73284c", checked := Try.checked }
namespace Rows
def none {H : Type} : Left H := { results := [], args := [] }

/-- 'laws.FnKnownMore': WHATEVER THE INPUT: true; the input reads as it did. -/
def fnKnownMoreSpec : ChangeSpec := { name := "fnKnownMore", fn := fun _ => fun
  | [d] => { results := [.lit (.bool true)], args := [d] }
  | _ => none }
def fnKnownMoreRow : OpenClaim := { program := "ytipcmoamhapecaa", sum := "bbcb2363cd51d289443b70b350760f42afaca40280f70f8c601b3af99b73284c", func := "loop.example/matchcompiler/laws.FnKnownMore", spec := "fnKnownMore", unfollowed := true, recurses := true, apart := false }
def FnKnownMoreSaid : Prop := fnKnownMoreRow.holds Try.pinned (OpenSpec.ofChange fnKnownMoreSpec)

/-- ITS FALSE NEIGHBOUR: 'it returns false'. Refute it at one input. -/
def fnKnownMoreWrong : ChangeSpec := { name := "fnKnownMore", fn := fun _ => fun
  | [d] => { results := [.lit (.bool false)], args := [d] }
  | _ => none }
def FnKnownMoreWrongFalsely : Prop := fnKnownMoreRow.holds Try.pinned (OpenSpec.ofChange fnKnownMoreWrong)

/-- 'laws.FnPartialValid': WHATEVER THE INPUT: true; the input reads as it did. -/
def fnPartialValidSpec : ChangeSpec := { name := "fnPartialValid", fn := fun _ => fun
  | [d] => { results := [.lit (.bool true)], args := [d] }
  | _ => none }
def fnPartialValidRow : OpenClaim := { program := "ytipcmoamhapecaa", sum := "bbcb2363cd51d289443b70b350760f42afaca40280f70f8c601b3af99b73284c", func := "loop.example/matchcompiler/laws.FnPartialValid", spec := "fnPartialValid", unfollowed := true, recurses := true, apart := false }
def FnPartialValidSaid : Prop := fnPartialValidRow.holds Try.pinned (OpenSpec.ofChange fnPartialValidSpec)

/-- ITS FALSE NEIGHBOUR: 'it returns false'. Refute it at one input. -/
def fnPartialValidWrong : ChangeSpec := { name := "fnPartialValid", fn := fun _ => fun
  | [d] => { results := [.lit (.bool false)], args := [d] }
  | _ => none }
def FnPartialValidWrongFalsely : Prop := fnPartialValidRow.holds Try.pinned (OpenSpec.ofChange fnPartialValidWrong)

/-- 'laws.FnKnownThree': WHATEVER THE INPUT: true; the input reads as it did. -/
def fnKnownThreeSpec : ChangeSpec := { name := "fnKnownThree", fn := fun _ => fun
  | [d] => { results := [.lit (.bool true)], args := [d] }
  | _ => none }
def fnKnownThreeRow : OpenClaim := { program := "ytipcmoamhapecaa", sum := "bbcb2363cd51d289443b70b350760f42afaca40280f70f8c601b3af99b73284c", func := "loop.example/matchcompiler/laws.FnKnownThree", spec := "fnKnownThree", unfollowed := true, recurses := true, apart := false }
def FnKnownThreeSaid : Prop := fnKnownThreeRow.holds Try.pinned (OpenSpec.ofChange fnKnownThreeSpec)

/-- ITS FALSE NEIGHBOUR: 'it returns false'. Refute it at one input. -/
def fnKnownThreeWrong : ChangeSpec := { name := "fnKnownThree", fn := fun _ => fun
  | [d] => { results := [.lit (.bool false)], args := [d] }
  | _ => none }
def FnKnownThreeWrongFalsely : Prop := fnKnownThreeRow.holds Try.pinned (OpenSpec.ofChange fnKnownThreeWrong)

/-- 'laws.FnMaskAll': WHATEVER THE INPUT: true; the input reads as it did. -/
def fnMaskAllSpec : ChangeSpec := { name := "fnMaskAll", fn := fun _ => fun
  | [d] => { results := [.lit (.bool true)], args := [d] }
  | _ => none }
def fnMaskAllRow : OpenClaim := { program := "ytipcmoamhapecaa", sum := "bbcb2363cd51d289443b70b350760f42afaca40280f70f8c601b3af99b73284c", func := "loop.example/matchcompiler/laws.FnMaskAll", spec := "fnMaskAll", unfollowed := true, recurses := true, apart := false }
def FnMaskAllSaid : Prop := fnMaskAllRow.holds Try.pinned (OpenSpec.ofChange fnMaskAllSpec)

/-- ITS FALSE NEIGHBOUR: 'it returns false'. Refute it at one input. -/
def fnMaskAllWrong : ChangeSpec := { name := "fnMaskAll", fn := fun _ => fun
  | [d] => { results := [.lit (.bool false)], args := [d] }
  | _ => none }
def FnMaskAllWrongFalsely : Prop := fnMaskAllRow.holds Try.pinned (OpenSpec.ofChange fnMaskAllWrong)

/-- 'laws.FnMaskValue': WHATEVER THE INPUT: true; the input reads as it did. -/
def fnMaskValueSpec : ChangeSpec := { name := "fnMaskValue", fn := fun _ => fun
  | [d] => { results := [.lit (.bool true)], args := [d] }
  | _ => none }
def fnMaskValueRow : OpenClaim := { program := "ytipcmoamhapecaa", sum := "bbcb2363cd51d289443b70b350760f42afaca40280f70f8c601b3af99b73284c", func := "loop.example/matchcompiler/laws.FnMaskValue", spec := "fnMaskValue", unfollowed := true, recurses := true, apart := false }
def FnMaskValueSaid : Prop := fnMaskValueRow.holds Try.pinned (OpenSpec.ofChange fnMaskValueSpec)

/-- ITS FALSE NEIGHBOUR: 'it returns false'. Refute it at one input. -/
def fnMaskValueWrong : ChangeSpec := { name := "fnMaskValue", fn := fun _ => fun
  | [d] => { results := [.lit (.bool false)], args := [d] }
  | _ => none }
def FnMaskValueWrongFalsely : Prop := fnMaskValueRow.holds Try.pinned (OpenSpec.ofChange fnMaskValueWrong)

/-- 'laws.FnExprParts': WHATEVER THE INPUT: true; the input reads as it did. -/
def fnExprPartsSpec : ChangeSpec := { name := "fnExprParts", fn := fun _ => fun
  | [d] => { results := [.lit (.bool true)], args := [d] }
  | _ => none }
def fnExprPartsRow : OpenClaim := { program := "ytipcmoamhapecaa", sum := "bbcb2363cd51d289443b70b350760f42afaca40280f70f8c601b3af99b73284c", func := "loop.example/matchcompiler/laws.FnExprParts", spec := "fnExprParts", unfollowed := true, recurses := true, apart := false }
def FnExprPartsSaid : Prop := fnExprPartsRow.holds Try.pinned (OpenSpec.ofChange fnExprPartsSpec)

/-- ITS FALSE NEIGHBOUR: 'it returns false'. Refute it at one input. -/
def fnExprPartsWrong : ChangeSpec := { name := "fnExprParts", fn := fun _ => fun
  | [d] => { results := [.lit (.bool false)], args := [d] }
  | _ => none }
def FnExprPartsWrongFalsely : Prop := fnExprPartsRow.holds Try.pinned (OpenSpec.ofChange fnExprPartsWrong)

/- THE SECOND FORM. 'bulk': how many values and letters a reading holds, each counted each time it is reached (what is shared counts as often as it is met; a slice's spare places count too). A statement '..UptoSaid' is the law's where the arguments, and the package variables that the reading takes, are together of bulk at most 1048576: NARROWER than '..Said'. Prove '..Said' where nothing that the law and all that it calls make is longer than what came in: it says more and counts as full. Else prove '..UptoSaid'. A law counts once. -/
mutual
def uptoBulk {H : Type} : DataW H → Nat
  | .lit (.string bytes) => bytes.length + 1
  | .lit _ => 1
  | .nil => 1
  | .ptr d => uptoBulk d + 1
  | .slice elems spare => uptoBulkAll elems + uptoBulkAll spare + 1
  | .agg parts => uptoBulkAll parts + 1
  | .iface _ d => uptoBulk d + 1
  | .map entries => uptoBulkEntries entries + 1
  | .held _ => 1
def uptoBulkAll {H : Type} : List (DataW H) → Nat
  | [] => 0
  | d :: r => uptoBulk d + uptoBulkAll r
def uptoBulkEntries {H : Type} : List (Lit × DataW H) → Nat
  | [] => 0
  | x :: r => uptoBulkEntry x + uptoBulkEntries r
def uptoBulkEntry {H : Type} : Lit × DataW H → Nat
  | (.string bytes, d) => bytes.length + uptoBulk d + 1
  | (_, d) => uptoBulk d + 1
 end
def uptoSmall : (H : Type) → List (DataW H) → Bool := fun _ ds => decide (uptoBulkAll ds ≤ 1048576)
def OpenSpec.upto (s : _root_.Go.ChangeSpec) : _root_.Go.OpenSpec := { _root_.Go.OpenSpec.ofChange s with cond := some uptoSmall }

/-- 'laws.FnKnownMore', WHERE WHAT IT READS IS OF BULK AT MOST 1048576: true; the input reads as it did. -/
def fnKnownMoreUptoRow : OpenClaim := { program := "ytipcmoamhapecaa", sum := "bbcb2363cd51d289443b70b350760f42afaca40280f70f8c601b3af99b73284c", func := "loop.example/matchcompiler/laws.FnKnownMore", spec := "fnKnownMore", unfollowed := true, recurses := true, apart := false, narrowed := true }
def FnKnownMoreUptoSaid : Prop := fnKnownMoreUptoRow.holds Try.pinned (OpenSpec.upto fnKnownMoreSpec)

/-- 'laws.FnPartialValid', WHERE WHAT IT READS IS OF BULK AT MOST 1048576: true; the input reads as it did. -/
def fnPartialValidUptoRow : OpenClaim := { program := "ytipcmoamhapecaa", sum := "bbcb2363cd51d289443b70b350760f42afaca40280f70f8c601b3af99b73284c", func := "loop.example/matchcompiler/laws.FnPartialValid", spec := "fnPartialValid", unfollowed := true, recurses := true, apart := false, narrowed := true }
def FnPartialValidUptoSaid : Prop := fnPartialValidUptoRow.holds Try.pinned (OpenSpec.upto fnPartialValidSpec)

/-- 'laws.FnKnownThree', WHERE WHAT IT READS IS OF BULK AT MOST 1048576: true; the input reads as it did. -/
def fnKnownThreeUptoRow : OpenClaim := { program := "ytipcmoamhapecaa", sum := "bbcb2363cd51d289443b70b350760f42afaca40280f70f8c601b3af99b73284c", func := "loop.example/matchcompiler/laws.FnKnownThree", spec := "fnKnownThree", unfollowed := true, recurses := true, apart := false, narrowed := true }
def FnKnownThreeUptoSaid : Prop := fnKnownThreeUptoRow.holds Try.pinned (OpenSpec.upto fnKnownThreeSpec)

/-- 'laws.FnMaskAll', WHERE WHAT IT READS IS OF BULK AT MOST 1048576: true; the input reads as it did. -/
def fnMaskAllUptoRow : OpenClaim := { program := "ytipcmoamhapecaa", sum := "bbcb2363cd51d289443b70b350760f42afaca40280f70f8c601b3af99b73284c", func := "loop.example/matchcompiler/laws.FnMaskAll", spec := "fnMaskAll", unfollowed := true, recurses := true, apart := false, narrowed := true }
def FnMaskAllUptoSaid : Prop := fnMaskAllUptoRow.holds Try.pinned (OpenSpec.upto fnMaskAllSpec)

/-- 'laws.FnMaskValue', WHERE WHAT IT READS IS OF BULK AT MOST 1048576: true; the input reads as it did. -/
def fnMaskValueUptoRow : OpenClaim := { program := "ytipcmoamhapecaa", sum := "bbcb2363cd51d289443b70b350760f42afaca40280f70f8c601b3af99b73284c", func := "loop.example/matchcompiler/laws.FnMaskValue", spec := "fnMaskValue", unfollowed := true, recurses := true, apart := false, narrowed := true }
def FnMaskValueUptoSaid : Prop := fnMaskValueUptoRow.holds Try.pinned (OpenSpec.upto fnMaskValueSpec)

/-- 'laws.FnExprParts', WHERE WHAT IT READS IS OF BULK AT MOST 1048576: true; the input reads as it did. -/
def fnExprPartsUptoRow : OpenClaim := { program := "ytipcmoamhapecaa", sum := "bbcb2363cd51d289443b70b350760f42afaca40280f70f8c601b3af99b73284c", func := "loop.example/matchcompiler/laws.FnExprParts", spec := "fnExprParts", unfollowed := true, recurses := true, apart := false, narrowed := true }
def FnExprPartsUptoSaid : Prop := fnExprPartsUptoRow.holds Try.pinned (OpenSpec.upto fnExprPartsSpec)

end Rows
end Go.Proofs.Ytipcmoamhapecaa
