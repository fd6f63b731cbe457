/-
  No cell of these rows narrows 'for every input' (looked for: loops, veiled, ifaces, maps, wideKeys, modest, calm, conditions, laid).
  DERIVED. THE GIVEN ROWS OF THIS SEAT. 4 by the template 'for every input the law returns true; each argument reads behind the call as it read before'; 0 by the template 'total and deterministic' (their statements: YtemnnldmdlgfpaaTotals.lean).
  GIVEN WITH THE SEED: the statements are not yours to turn. If you find one false, say at which input.
  Laid BY PROGRAM, IN A SANDBOX (cutbox-rows.mjs): the forced cells as the released guide's own fill.sh prints them over the translation d7b646343935a2f9… (all of the seat's roots in one cut). By AI agents, Wed Nov 11 2026. No macro, syntax, notation, axiom, sorry.
-/
import Derived.Test.YtemnnldmdlgfpaaChecked
import GoSem.Claim
import GoSem.ClaimJoined
import GoSem.ClaimMapViews
import Derived.JoinedTies
import Derived.KernelRfl
namespace Go.Proofs.Ytemnnldmdlgfpaa
/- THE CELL 'sum', in the pinned program and in every row, IS THE sha256 OF THE DUMP (.gsa) THAT YtemnnldmdlgfpaaProg.lean LOADS. Nothing in Lean hashes anything: it is a label: what it is worth is what the hold of that sum in a sandbox is worth. -/
noncomputable def Try.pinned : Pinned := { name := "ytemnnldmdlgfpaa", sum := "d7b646343935a2f9f1c2ad1f844cedea492591d98b2127c7512e6f883f2e4542", checked := Try.checked }
namespace Rows
def none {H : Type} : Left H := { results := [], args := [] }

/-- 'laws.FnCallsOf': WHATEVER THE INPUT: true; the input reads as it did. -/
def fnCallsOfSpec : ChangeSpec := { name := "fnCallsOf", fn := fun _ => fun
  | [d] => { results := [.lit (.bool true)], args := [d] }
  | _ => none }
def fnCallsOfRow : OpenClaim := { program := "ytemnnldmdlgfpaa", sum := "d7b646343935a2f9f1c2ad1f844cedea492591d98b2127c7512e6f883f2e4542", func := "loop.example/matchcompiler/laws.FnCallsOf", spec := "fnCallsOf", recurses := true, apart := false }
def FnCallsOfSaid : Prop := fnCallsOfRow.holds Try.pinned (OpenSpec.ofChange fnCallsOfSpec)

/-- ITS FALSE NEIGHBOUR: 'it returns false'. Refute it at one input. -/
def fnCallsOfWrong : ChangeSpec := { name := "fnCallsOf", fn := fun _ => fun
  | [d] => { results := [.lit (.bool false)], args := [d] }
  | _ => none }
def FnCallsOfWrongFalsely : Prop := fnCallsOfRow.holds Try.pinned (OpenSpec.ofChange fnCallsOfWrong)

/-- 'laws.FnExprParts': WHATEVER THE INPUT: true; the input reads as it did. -/
def fnExprPartsSpec : ChangeSpec := { name := "fnExprParts", fn := fun _ => fun
  | [d] => { results := [.lit (.bool true)], args := [d] }
  | _ => none }
def fnExprPartsRow : OpenClaim := { program := "ytemnnldmdlgfpaa", sum := "d7b646343935a2f9f1c2ad1f844cedea492591d98b2127c7512e6f883f2e4542", func := "loop.example/matchcompiler/laws.FnExprParts", spec := "fnExprParts", unfollowed := true, recurses := true, apart := false }
def FnExprPartsSaid : Prop := fnExprPartsRow.holds Try.pinned (OpenSpec.ofChange fnExprPartsSpec)

/-- ITS FALSE NEIGHBOUR: 'it returns false'. Refute it at one input. -/
def fnExprPartsWrong : ChangeSpec := { name := "fnExprParts", fn := fun _ => fun
  | [d] => { results := [.lit (.bool false)], args := [d] }
  | _ => none }
def FnExprPartsWrongFalsely : Prop := fnExprPartsRow.holds Try.pinned (OpenSpec.ofChange fnExprPartsWrong)

/-- 'laws.FnExprFits': WHATEVER THE INPUT: true; the input reads as it did. -/
def fnExprFitsSpec : ChangeSpec := { name := "fnExprFits", fn := fun _ => fun
  | [d] => { results := [.lit (.bool true)], args := [d] }
  | _ => none }
def fnExprFitsRow : OpenClaim := { program := "ytemnnldmdlgfpaa", sum := "d7b646343935a2f9f1c2ad1f844cedea492591d98b2127c7512e6f883f2e4542", func := "loop.example/matchcompiler/laws.FnExprFits", spec := "fnExprFits", unfollowed := true, recurses := true, apart := false }
def FnExprFitsSaid : Prop := fnExprFitsRow.holds Try.pinned (OpenSpec.ofChange fnExprFitsSpec)

/-- ITS FALSE NEIGHBOUR: 'it returns false'. Refute it at one input. -/
def fnExprFitsWrong : ChangeSpec := { name := "fnExprFits", fn := fun _ => fun
  | [d] => { results := [.lit (.bool false)], args := [d] }
  | _ => none }
def FnExprFitsWrongFalsely : Prop := fnExprFitsRow.holds Try.pinned (OpenSpec.ofChange fnExprFitsWrong)

/-- 'laws.FnPartialValid': WHATEVER THE INPUT: true; the input reads as it did. -/
def fnPartialValidSpec : ChangeSpec := { name := "fnPartialValid", fn := fun _ => fun
  | [d] => { results := [.lit (.bool true)], args := [d] }
  | _ => none }
def fnPartialValidRow : OpenClaim := { program := "ytemnnldmdlgfpaa", sum := "d7b646343935a2f9f1c2ad1f844cedea492591d98b2127c7512e6f883f2e4542", func := "loop.example/matchcompiler/laws.FnPartialValid", spec := "fnPartialValid", unfollowed := true, recurses := true, apart := false }
def FnPartialValidSaid : Prop := fnPartialValidRow.holds Try.pinned (OpenSpec.ofChange fnPartialValidSpec)

/-- ITS FALSE NEIGHBOUR: 'it returns false'. Refute it at one input. -/
def fnPartialValidWrong : ChangeSpec := { name := "fnPartialValid", fn := fun _ => fun
  | [d] => { results := [.lit (.bool false)], args := [d] }
  | _ => none }
def FnPartialValidWrongFalsely : Prop := fnPartialValidRow.holds Try.pinned (OpenSpec.ofChange fnPartialValidWrong)

/- THE SECOND FORM. 'bulk': how many values and letters a reading holds, each counted each time it is reached (what is shared counts as often as it is met; a slice's spare places count too). A statement '..UptoSaid' is the law's where the arguments, and the package variables that the reading takes, are together of bulk at most 1048576: NARROWER than '..Said'. Prove '..Said' where nothing that the law and all that it calls make is longer than what came in: it says more and counts as full. Else prove '..UptoSaid'. A law counts once. -/
mutual
def uptoBulk {H : Type} : DataW H → Nat
  | .lit (.string bytes) => bytes.length + 1
  | .lit _ => 1
  | .nil => 1
  | .ptr d => uptoBulk d + 1
  | .slice elems spare => uptoBulkAll elems + uptoBulkAll spare + 1
  | .agg parts => uptoBulkAll parts + 1
  | .iface _ d => uptoBulk d + 1
  | .map entries => uptoBulkEntries entries + 1
  | .held _ => 1
def uptoBulkAll {H : Type} : List (DataW H) → Nat
  | [] => 0
  | d :: r => uptoBulk d + uptoBulkAll r
def uptoBulkEntries {H : Type} : List (Lit × DataW H) → Nat
  | [] => 0
  | x :: r => uptoBulkEntry x + uptoBulkEntries r
def uptoBulkEntry {H : Type} : Lit × DataW H → Nat
  | (.string bytes, d) => bytes.length + uptoBulk d + 1
  | (_, d) => uptoBulk d + 1
 end
def uptoSmall : (H : Type) → List (DataW H) → Bool := fun _ ds => decide (uptoBulkAll ds ≤ 1048576)
def OpenSpec.upto (s : _root_.Go.ChangeSpec) : _root_.Go.OpenSpec := { _root_.Go.OpenSpec.ofChange s with cond := some uptoSmall }

/-- 'laws.FnCallsOf', WHERE WHAT IT READS IS OF BULK AT MOST 1048576: true; the input reads as it did. -/
def fnCallsOfUptoRow : OpenClaim := { program := "ytemnnldmdlgfpaa", sum := "d7b646343935a2f9f1c2ad1f844cedea492591d98b2127c7512e6f883f2e4542", func := "loop.example/matchcompiler/laws.FnCallsOf", spec := "fnCallsOf", recurses := true, apart := false, narrowed := true }
def FnCallsOfUptoSaid : Prop := fnCallsOfUptoRow.holds Try.pinned (OpenSpec.upto fnCallsOfSpec)

/-- 'laws.FnExprParts', WHERE WHAT IT READS IS OF BULK AT MOST 1048576: true; the input reads as it did. -/
def fnExprPartsUptoRow : OpenClaim := { program := "ytemnnldmdlgfpaa", sum := "d7b646343935a2f9f1c2ad1f844cedea492591d98b2127c7512e6f883f2e4542", func := "loop.example/matchcompiler/laws.FnExprParts", spec := "fnExprParts", unfollowed := true, recurses := true, apart := false, narrowed := true }
def FnExprPartsUptoSaid : Prop := fnExprPartsUptoRow.holds Try.pinned (OpenSpec.upto fnExprPartsSpec)

/-- 'laws.FnExprFits', WHERE WHAT IT READS IS OF BULK AT MOST 1048576: true; the input reads as it did. -/
def fnExprFitsUptoRow : OpenClaim := { program := "ytemnnldmdlgfpaa", sum := "d7b646343935a2f9f1c2ad1f844cedea492591d98b2127c7512e6f883f2e4542", func := "loop.example/matchcompiler/laws.FnExprFits", spec := "fnExprFits", unfollowed := true, recurses := true, apart := false, narrowed := true }
def FnExprFitsUptoSaid : Prop := fnExprFitsUptoRow.holds Try.pinned (OpenSpec.upto fnExprFitsSpec)

/-- 'laws.FnPartialValid', WHERE WHAT IT READS IS OF BULK AT MOST 1048576: true; the input reads as it did. -/
def fnPartialValidUptoRow : OpenClaim := { program := "ytemnnldmdlgfpaa", sum := "d7b646343935a2f9f1c2ad1f844cedea492591d98b2127c7512e6f883f2e4542", func := "loop.example/matchcompiler/laws.FnPartialValid", spec := "fnPartialValid", unfollowed := true, recurses := true, apart := false, narrowed := true }
def FnPartialValidUptoSaid : Prop := fnPartialValidUptoRow.holds Try.pinned (OpenSpec.upto fnPartialValidSpec)

end Rows
end Go.Proofs.Ytemnnldmdlgfpaa
