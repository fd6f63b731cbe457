/-
  PROVED HERE: laws.FnExactForcedFirst returns true for all arguments, and what it was given reads behind the call as it read before.
  Conditions: none.
-/
import Derived.Test.YtnockmfobogfpaaGreatRows
import Derived.Test.YtnockmfobogfpaaGreatExactForcedFirstC
import Derived.Test.YtnockmfobogfpaaGreatExactForcedFirstL
namespace Go.Proofs.YtnockmfobogfpaaGreat
open Go Go.Proofs Go.Vl Go.ChangeShapes Go.WideShapes Go.ChangeAt Go.RowKit
def Tryz.rep :List (TypeId×DTy):=[(3,.int),(9,.str),(22,.list (.named 2)),(24,.named 0),(25,.list (.named 6)),(26,.list (.named 3)),(28,.named 3),(60,.list (.named 1)),(62,.named 2),(64,.list (.named 4)),(66,.named 4),(68,.named 5),(70,.named 6),(157,.list (.named 0)),(159,.named 1)]
theorem Tryz.repOk :ZPB Tryz.prog Tryz.rep=true:=by kernel_rfl
theorem Tryz.own :ownKnob Tryz.prog.godebug=none:=by kernel_rfl
theorem Tryz.laidOut :laidOutB Tryz.prog=true:=by kernel_rfl
theorem Tryz.tys :tyB Tryz.prog [3,9,22,24,25,26,28,60,62,64,66,68,70,157,159]=true:=by kernel_rfl
set_option maxRecDepth 100000 in
theorem law_args (xs:List AV)(h:ZBe Tryz.prog Tryz.f4.params.toList xs):PureCall Tryz.prog BIG 4 xs (.lit (.bool true)):=by
  rw[Tryz.params4]at h
  simp only[ZBe]at h
  obtain⟨x0,r0,rfl,h0,x1,r1,rfl,h1,x2,r2,rfl,h2,x3,r3,rfl,h3,rfl⟩:=h
  simp only[ZAe,Tryz.underlying22]at h0
  obtain⟨n0,g0⟩:=h0
  obtain⟨d0,e0,i0⟩:=Is.of_typed Tryz.repOk n0 22 (.list (.named 2)) _ rfl g0
  obtain⟨es0,rfl,l0,m0⟩:=i0.list_inv
  obtain⟨v0,c0,o0⟩:=ZBB (c:=Data.c) (Q:=Data.Ok) m0 l0 (fun k _ hi=>Data.open k hi)
  rw[D.cells_list]at e0
  cases e0
  rw[←c0]
  simp only[ZAe,Tryz.underlying24]at h1
  obtain⟨n1,as1,rfl,g1⟩:=h1
  obtain⟨d1,rfl,i1⟩:=Is.of_typed Tryz.repOk n1 24 (.named 0) as1 rfl g1
  obtain⟨v1,c1,o1⟩:=Ty.open d1 i1
  rw[←c1,Ty.c_eq]
  simp only[ZAe,Tryz.underlying25]at h2
  obtain⟨n2,g2⟩:=h2
  obtain⟨d2,e2,i2⟩:=Is.of_typed Tryz.repOk n2 25 (.list (.named 6)) _ rfl g2
  obtain⟨es2,rfl,l2,m2⟩:=i2.list_inv
  obtain⟨v2,c2,o2⟩:=ZBB (c:=Clause.c) (Q:=Clause.Ok) m2 l2 (fun k _ hi=>Clause.open k hi)
  rw[D.cells_list]at e2
  cases e2
  rw[←c2]
  simp only[ZAe,Tryz.underlying28]at h3
  obtain⟨n3,as3,rfl,g3⟩:=h3
  obtain⟨d3,rfl,i3⟩:=Is.of_typed Tryz.repOk n3 28 (.named 3) as3 rfl g3
  obtain⟨v3,c3,o3⟩:=Value.open d3 i3
  rw[←c3,Value.c_eq]
  exact C.f264 BIG (by decide) (by decide) v0 v1 v2 v3 true (P.FnExactForcedFirst v0 v1 v2 v3 o0 o1 o2 o3)
set_option maxRecDepth 100000 in
theorem lifted (os : Os) (started : os.Started) (H : Type) (enc : TypeId × Value -> H) :
    ReturnsInHanded {} Tryz.checked os 4 .any (Rows.fnExactForcedFirstSpec.pre6 enc Tryz.prog Tryz.f4 Rows.fnExactForcedFirstRow.domain false) (Rows.fnExactForcedFirstSpec.post enc Tryz.prog Tryz.f4 false true false false):=by
  refine returnsInHanded_of_change (C:=Tryz.checked) Tryz.own started (by kernel_rfl) Tryz.func4
    (ChangeSpec.witness6 (enc:=enc) (C:=Tryz.checked) false ⟨#[],#[.slice none 0 0,.agg #[.int .i64 0,.int .i64 0],.slice none 0 0,.agg #[.int .i64 0,.int .i64 0,.slice none 0 0]],[]⟩ 8 (by kernel_rfl) (by kernel_rfl) (by kernel_rfl) (by kernel_rfl)) ?_
  intro W base args ds gs before hval hW _ _
  refine law_any (tb:=4) Tryz.laidOut Tryz.tys (of_decide_eq_true (by kernel_rfl)) (by kernel_rfl) (by kernel_rfl) rfl ?_ law_args hval hW
  intro ds hds
  rw[Tryz.params4]at hds
  match ds,hds with
  | [d0,d1,d2,d3],_=>rfl
theorem FnExactForcedFirst_holds :Rows.FnExactForcedFirstSaid:=
  OpenClaim.holds_of_wide 4 Tryz.f4 rfl rfl rfl rfl rfl rfl rfl ⟨rfl,rfl,rfl,rfl,rfl⟩ rfl rfl rfl rfl rfl (by kernel_rfl) Tryz.func4 (by kernel_rfl)
    (of_decide_eq_true (by kernel_rfl)) (by unfold Func.isWrapper;rw[iN (of_decide_eq_false (by kernel_rfl))];exact⟨rfl,rfl⟩)
    (fun os started H enc _=>lifted os started H enc)
end Go.Proofs.YtnockmfobogfpaaGreat
