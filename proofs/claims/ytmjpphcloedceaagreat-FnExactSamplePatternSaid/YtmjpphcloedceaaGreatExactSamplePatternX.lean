/-
  PROVED HERE: laws.FnExactSamplePattern returns true for all arguments, and what it was given reads behind the call as it read before.
  Conditions: none.
-/
import Derived.Test.YtmjpphcloedceaaGreatRows
import Derived.Test.YtmjpphcloedceaaGreatExactSamplePatternC
import Derived.Test.YtmjpphcloedceaaGreatExactSamplePatternL
namespace Go.Proofs.YtmjpphcloedceaaGreat
open Go Go.Proofs Go.Vl Go.ChangeShapes Go.WideShapes Go.ChangeAt Go.RowKit
def Tryz.rep :List (TypeId×DTy):=[(3,.int),(9,.str),(22,.list (.named 2)),(24,.named 0),(25,.list (.named 4)),(27,.named 4),(60,.list (.named 1)),(62,.named 2),(126,.list (.named 0)),(128,.named 1)]
theorem Tryz.repOk :ZNQ Tryz.prog Tryz.rep=true:=by kernel_rfl
theorem Tryz.own :ownKnob Tryz.prog.godebug=none:=by kernel_rfl
theorem Tryz.laidOut :laidOutB Tryz.prog=true:=by kernel_rfl
theorem Tryz.tys :tyB Tryz.prog [3,9,22,24,25,27,60,62,126,128]=true:=by kernel_rfl
set_option maxRecDepth 100000 in
theorem law_args (xs:List AV)(h:ZBh Tryz.prog Tryz.f3.params.toList xs):PureCall Tryz.prog BIG 3 xs (.lit (.bool true)):=by
  rw[Tryz.params3]at h
  simp only[ZBh]at h
  obtain⟨x0,r0,rfl,h0,x1,r1,rfl,h1,x2,r2,rfl,h2,rfl⟩:=h
  simp only[ZAy,Tryz.underlying22]at h0
  obtain⟨n0,g0⟩:=h0
  obtain⟨d0,e0,i0⟩:=Is.of_typed Tryz.repOk n0 22 (.list (.named 2)) _ rfl g0
  obtain⟨es0,rfl,l0,m0⟩:=i0.list_inv
  obtain⟨v0,c0,o0⟩:=Za (c:=Data.c) (Q:=Data.Ok) m0 l0 (fun k _ hi=>Data.open k hi)
  rw[D.cells_list]at e0
  cases e0
  rw[←c0]
  simp only[ZAy,Tryz.underlying24]at h1
  obtain⟨n1,as1,rfl,g1⟩:=h1
  obtain⟨d1,rfl,i1⟩:=Is.of_typed Tryz.repOk n1 24 (.named 0) as1 rfl g1
  obtain⟨v1,c1,o1⟩:=Ty.open d1 i1
  rw[←c1,Ty.c_eq]
  simp only[ZAy,Tryz.underlying27]at h2
  obtain⟨n2,as2,rfl,g2⟩:=h2
  obtain⟨d2,rfl,i2⟩:=Is.of_typed Tryz.repOk n2 27 (.named 4) as2 rfl g2
  obtain⟨v2,c2,o2⟩:=Pattern.open d2 i2
  rw[←c2,Pattern.c_eq]
  exact C.f183 BIG (by decide) (by decide) v0 v1 v2 true (P.FnExactSamplePattern v0 v1 v2 o0 o1 o2)
set_option maxRecDepth 100000 in
theorem lifted (os : Os) (started : os.Started) (H : Type) (enc : TypeId × Value -> H) :
    ReturnsInHanded {} Tryz.checked os 3 .any (Rows.fnExactSamplePatternSpec.pre6 enc Tryz.prog Tryz.f3 Rows.fnExactSamplePatternRow.domain false) (Rows.fnExactSamplePatternSpec.post enc Tryz.prog Tryz.f3 false true false false):=by
  refine returnsInHanded_of_change (C:=Tryz.checked) Tryz.own started (by kernel_rfl) Tryz.func3
    (ChangeSpec.witness6 (enc:=enc) (C:=Tryz.checked) false ⟨#[],#[.slice none 0 0,.agg #[.int .i64 0,.int .i64 0],.agg #[.int .i64 0,.int .i64 0,.int .i64 0,.int .i64 0,.int .i64 0,.slice none 0 0]],[]⟩ 8 (by kernel_rfl) (by kernel_rfl) (by kernel_rfl) (by kernel_rfl)) ?_
  intro W base args ds gs before hval hW _ _
  refine law_any (tb:=4) Tryz.laidOut Tryz.tys (of_decide_eq_true (by kernel_rfl)) (by kernel_rfl) (by kernel_rfl) rfl ?_ law_args hval hW
  intro ds hds
  rw[Tryz.params3]at hds
  match ds,hds with
  | [d0,d1,d2],_=>rfl
theorem FnExactSamplePattern_holds :Rows.FnExactSamplePatternSaid:=
  OpenClaim.holds_of_wide 3 Tryz.f3 rfl rfl rfl rfl rfl rfl rfl ⟨rfl,rfl,rfl,rfl,rfl⟩ rfl rfl rfl rfl rfl (by kernel_rfl) Tryz.func3 (by kernel_rfl)
    (of_decide_eq_true (by kernel_rfl)) (by unfold Func.isWrapper;rw[iN (of_decide_eq_false (by kernel_rfl))];exact⟨rfl,rfl⟩)
    (fun os started H enc _=>lifted os started H enc)
end Go.Proofs.YtmjpphcloedceaaGreat
