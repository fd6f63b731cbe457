/-
  PROVED HERE: laws.FnExactExpandNodes returns true for all arguments, and what it was given reads behind the call as it read before.
  Conditions: none.
-/
import Derived.Test.YtojdombnghnbmaaRows
import Derived.Test.YtojdombnghnbmaaExactExpandNodesC
import Derived.Test.YtojdombnghnbmaaExactExpandNodesL
namespace Go.Proofs.Ytojdombnghnbmaa
open Go Go.Proofs Go.Vl Go.ChangeShapes Go.WideShapes Go.ChangeAt Go.RowKit
def Try.rep :List (TypeId×DTy):=[(3,.int),(22,.list (.named 16)),(25,.list .int),(40,.list (.named 12)),(41,.list (.named 15)),(43,.named 16),(83,.named 12),(86,.named 15)]
theorem Try.repOk :repB Try.prog Try.rep=true:=by kernel_rfl
theorem Try.own :ownKnob Try.prog.godebug=none:=by kernel_rfl
theorem Try.laidOut :laidOutB Try.prog=true:=by kernel_rfl
theorem Try.tys :tyB Try.prog [3,22,25,40,41,43,83,86]=true:=by kernel_rfl
set_option maxRecDepth 100000 in
theorem law_args (xs:List AV)(h:TypedArgs Try.prog Try.f3.params.toList xs):PureCall Try.prog BIG 3 xs (.lit (.bool true)):=by
  rw[Try.params3]at h
  simp only[TypedArgs]at h
  obtain⟨x0,r0,rfl,h0,rfl⟩:=h
  simp only[TypedArg,Try.underlying22]at h0
  obtain⟨n0,g0⟩:=h0
  obtain⟨d0,e0,i0⟩:=Is.of_typed Try.repOk n0 22 (.list (.named 16)) _ rfl g0
  obtain⟨es0,rfl,l0,m0⟩:=i0.list_inv
  obtain⟨v0,c0,o0⟩:=open_list (c:=Node.c) (Q:=Node.Ok) m0 l0 (fun k _ hi=>Node.open k hi)
  rw[D.cells_list]at e0
  cases e0
  rw[←c0]
  exact C.f76 BIG (by decide) (by decide) v0 true (P.FnExactExpandNodes v0 o0)
set_option maxRecDepth 100000 in
theorem lifted (os : Os) (started : os.Started) (H : Type) (enc : TypeId × Value → H) :
    ReturnsInHanded {} Try.checked os 3 .any (Rows.fnExactExpandNodesSpec.pre6 enc Try.prog Try.f3 Rows.fnExactExpandNodesRow.domain false) (Rows.fnExactExpandNodesSpec.post enc Try.prog Try.f3 false true false false):=by
  refine returnsInHanded_of_change (C:=Try.checked) Try.own started (by kernel_rfl) Try.func3
    (ChangeSpec.witness6 (enc:=enc) (C:=Try.checked) false ⟨#[],#[.slice none 0 0],[]⟩ 8 (by kernel_rfl) (by kernel_rfl) (by kernel_rfl) (by kernel_rfl)) ?_
  intro W base args ds gs before hval hW _ _
  refine law_any (tb:=4) Try.laidOut Try.tys (of_decide_eq_true (by kernel_rfl)) (by kernel_rfl) (by kernel_rfl) rfl ?_ law_args hval hW
  intro ds hds
  rw[Try.params3]at hds
  match ds,hds with
  | [d0],_=>rfl
theorem FnExactExpandNodes_holds :Rows.FnExactExpandNodesSaid:=
  OpenClaim.holds_of_wide 3 Try.f3 rfl rfl rfl rfl rfl rfl rfl ⟨rfl,rfl,rfl,rfl,rfl⟩ rfl rfl rfl rfl rfl (by kernel_rfl) Try.func3 (by kernel_rfl)
    (of_decide_eq_true (by kernel_rfl)) (by unfold Func.isWrapper;rw[if_neg (of_decide_eq_false (by kernel_rfl))];exact⟨rfl,rfl⟩)
    (fun os started H enc _=>lifted os started H enc)
end Go.Proofs.Ytojdombnghnbmaa
