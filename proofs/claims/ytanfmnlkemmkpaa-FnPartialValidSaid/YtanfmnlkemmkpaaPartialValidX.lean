/-
  PROVED HERE: laws.FnPartialValid returns true for all arguments, and what it was given reads behind the call as it read before.
  Conditions: none.
-/
import Derived.Test.YtanfmnlkemmkpaaRows
import Derived.Test.YtanfmnlkemmkpaaPartialValidC
import Derived.Test.YtanfmnlkemmkpaaPartialValidL
namespace Go.Proofs.Ytanfmnlkemmkpaa
open Go Go.Proofs Go.Vl Go.ChangeShapes Go.WideShapes Go.ChangeAt Go.RowKit
def Try.rep :List (TypeId×DTy):=[]
theorem Try.repOk :repB Try.prog Try.rep=true:=by kernel_rfl
theorem Try.own :ownKnob Try.prog.godebug=none:=by kernel_rfl
theorem Try.laidOut :laidOutB Try.prog=true:=by kernel_rfl
theorem Try.tys :tyB Try.prog [5,22]=true:=by kernel_rfl
set_option maxRecDepth 100000 in
theorem law_args (xs:List AV)(h:TypedArgs Try.prog Try.f3.params.toList xs):PureCall Try.prog BIG 3 xs (.lit (.bool true)):=by
  rw[Try.params3]at h
  simp only[TypedArgs]at h
  obtain⟨x0,r0,rfl,h0,rfl⟩:=h
  simp only[TypedArg,Try.underlying22]at h0
  obtain⟨n0,g0⟩:=h0
  obtain⟨v0,e0,o0⟩:=open_bytes Try.underlying22 Try.underlying5 g0
  cases e0
  exact C.f111 BIG (by decide) (by decide) v0 true (P.FnPartialValid v0 o0)
set_option maxRecDepth 100000 in
theorem lifted (os : Os) (started : os.Started) (H : Type) (enc : TypeId × Value → H) :
    ReturnsInHanded {} Try.checked os 3 .any (Rows.fnPartialValidSpec.pre6 enc Try.prog Try.f3 Rows.fnPartialValidRow.domain false) (Rows.fnPartialValidSpec.post enc Try.prog Try.f3 false true false false):=by
  refine returnsInHanded_of_change (C:=Try.checked) Try.own started (by kernel_rfl) Try.func3
    (ChangeSpec.witness6 (enc:=enc) (C:=Try.checked) false ⟨#[],#[.slice none 0 0],[]⟩ 8 (by kernel_rfl) (by kernel_rfl) (by kernel_rfl) (by kernel_rfl)) ?_
  intro W base args ds gs before hval hW _ _
  refine law_any (tb:=4) Try.laidOut Try.tys (of_decide_eq_true (by kernel_rfl)) (by kernel_rfl) (by kernel_rfl) rfl ?_ law_args hval hW
  intro ds hds
  rw[Try.params3]at hds
  match ds,hds with
  | [d0],_=>rfl
theorem FnPartialValid_holds :Rows.FnPartialValidSaid:=
  OpenClaim.holds_of_wide 3 Try.f3 rfl rfl rfl rfl rfl rfl rfl ⟨rfl,rfl,rfl,rfl,rfl⟩ rfl rfl rfl rfl rfl (by kernel_rfl) Try.func3 (by kernel_rfl)
    (of_decide_eq_true (by kernel_rfl)) (by unfold Func.isWrapper;rw[if_neg (of_decide_eq_false (by kernel_rfl))];exact⟨rfl,rfl⟩)
    (fun os started H enc _=>lifted os started H enc)
end Go.Proofs.Ytanfmnlkemmkpaa
