/-
  PROVED HERE: laws.FnClausesPrefix returns true for all arguments, and what it was given reads behind the call as it read before.
  Conditions: none.
-/
import Derived.Test.YtinfmpljhapfgaaGreatDoorRows
import Derived.Test.YtinfmpljhapfgaaGreatDoorTie
import Derived.Test.YtinfmpljhapfgaaGreatDoorCards
import Derived.SevenTiedAt
import Derived.Lay
import Derived.Handy
import Derived.Test.YtinfmpljhapfgaaGreatDoorClausesPrefixC
import Derived.Test.YtinfmpljhapfgaaGreatDoorClausesPrefixL
namespace Go.Proofs.YtinfmpljhapfgaaGreatDoor
open Go Go.Proofs Go.Vl Go.ChangeShapes Go.WideShapes Go.ChangeAt Go.RowKit
def Tryz.rep :List (TypeId×DTy):=[]
theorem Tryz.repOk :ZQO Tryz.prog Tryz.rep=true:=by kernel_rfl
theorem Tryz.own :ownKnob Tryz.prog.godebug=none:=by kernel_rfl
theorem Tryz.laidOut :laidOutB Tryz.prog=true:=by kernel_rfl
theorem Tryz.tys :tyB Tryz.prog [5,22]=true:=by kernel_rfl
set_option maxRecDepth 100000 in
theorem law_args (xs:List AV)(h:ZBQ Tryz.prog Tryz.f3.params.toList xs):PureCall Tryz.prog BIG 3 xs (.lit (.bool true)):=by
  rw[Tryz.params3]at h
  simp only[ZBQ]at h
  obtain⟨x0,r0,rfl,h0,x1,r1,rfl,h1,rfl⟩:=h
  simp only[ZA7,Tryz.underlying22]at h0
  obtain⟨n0,g0⟩:=h0
  obtain⟨v0,e0,o0⟩:=ZD3 Tryz.underlying22 Tryz.underlying5 g0
  cases e0
  simp only[ZA7,Tryz.underlying22]at h1
  obtain⟨n1,g1⟩:=h1
  obtain⟨v1,e1,o1⟩:=ZD3 Tryz.underlying22 Tryz.underlying5 g1
  cases e1
  exact C.f167 BIG (by decide) (by decide) v0 v1 true (P.FnClausesPrefix v0 v1 o0 o1)
set_option maxRecDepth 100000 in
theorem lifted (os : Os) (started : os.Started) (H : Type) (enc : TypeId × Value -> H) :
    ReturnsInHanded {} Tryz.checked os 3 .any (fun w args=>(Rows.fnClausesPrefixSpec.pre enc Tryz.prog Tryz.f3 [] false w args/\laidMetH Tryz.prog Rows.fnClausesPrefixRow.laid w)/\sizedMet enc Tryz.prog Tryz.f3 (OpenSpec.ofChange Rows.fnClausesPrefixSpec) false w args)
      (Rows.fnClausesPrefixSpec.post enc Tryz.prog Tryz.f3 false true false false):=by
  refine returnsInHanded_of_change_and (C:=Tryz.checked) (X:=fun w _=>laidMetH Tryz.prog Rows.fnClausesPrefixRow.laid w) (fun _ _ _ hh h=>h.of_heap hh) Tryz.own started (by kernel_rfl) Tryz.func3
    (ChangeSpec.witness_shaped (enc:=enc) (C:=Tryz.checked) (os:=os) (X:=fun w _=>laidMetH Tryz.prog Rows.fnClausesPrefixRow.laid w) false (World.laidAll Tryz.prog os Rows.fnClausesPrefixRow.laid) #[.slice none 0 0,.slice none 0 0] 8 (World.laidAll_os _ _ _)
      (World.shaped_of_ZipB (by kernel_rfl) (by kernel_rfl)) (by kernel_rfl) (by kernel_rfl) (by kernel_rfl)
      (by rw[MakeChecks.laidMetH_plain _ _ _ (by kernel_rfl)];exact laidMet_laidAll _ (by kernel_rfl) (by kernel_rfl))) ?_
  intro W base args ds gs before hval hW _ _ _ _
  refine law_any (tb:=4) Tryz.laidOut Tryz.tys (of_decide_eq_true (by kernel_rfl)) (by kernel_rfl) (by kernel_rfl) rfl ?_ law_args hval hW
  intro ds hds
  rw[Tryz.params3]at hds
  match ds,hds with
  | [d0,d1],_=>rfl
theorem FnClausesPrefix_row :Rows.FnClausesPrefixSaid:=
  OpenClaim.holds_of_wide 3 Tryz.f3 rfl rfl rfl rfl rfl rfl rfl ⟨rfl,rfl,rfl,rfl,rfl⟩ rfl rfl rfl rfl rfl (by kernel_rfl) Tryz.func3 (by kernel_rfl)
    (of_decide_eq_true (by kernel_rfl)) (by unfold Func.isWrapper;rw[if_neg (of_decide_eq_false (by kernel_rfl))];exact⟨rfl,rfl⟩)
    (fun os started H enc _=>lifted os started H enc)
theorem FnClausesPrefix_holds :Rows.FnClausesPrefixCardSaid:=
  Claim7.holds_tied_plain_at .later [] Rows.fnClausesPrefixCard.laidKinds true Rows.fnClausesPrefixCard.stood.harness false FnClausesPrefix_row (fun _ h=>by cases h) (by kernel_rfl) (fun _ h=>by cases h) fnClausesPrefix_row_tie rfl ⟨rfl,rfl⟩ (by kernel_rfl) rfl
    (fun f fn hf hfn=>by
      obtain rfl:f=3:=Option.some.inj ((show Tryz.prog.funcNamed Rows.fnClausesPrefixRow.func=some 3 by kernel_rfl).symm.trans hf)|>.symm
      obtain rfl:fn=Tryz.f3:=(Option.some.inj (Tryz.func3.symm.trans hfn)).symm
      exact⟨by kernel_rfl,fun j t ht=>by
        rw[Tryz.params3]at ht
        have hm:t∈[22,22]:=by simpa using Array.mem_of_getElem? ht
        have hall:([22,22].all fun u=> !Tryz.prog.wantsStandIn u)=true:=by kernel_rfl
        exact(show Tryz.prog.wantsStandIn t=false by simpa using List.all_eq_true.1 hall t hm)⟩)
    (by kernel_rfl)
end Go.Proofs.YtinfmpljhapfgaaGreatDoor
