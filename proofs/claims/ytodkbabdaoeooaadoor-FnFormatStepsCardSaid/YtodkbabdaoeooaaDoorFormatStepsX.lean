/-
  PROVED HERE: laws.FnFormatSteps returns true for all arguments, and what it was given reads behind the call as it read before.
  Conditions: none.
-/
import Derived.Test.YtodkbabdaoeooaaDoorRows
import Derived.Test.YtodkbabdaoeooaaDoorTie
import Derived.Test.YtodkbabdaoeooaaDoorCards
import Derived.SevenTiedAt
import Derived.Lay
import Derived.Handy
import Derived.Test.YtodkbabdaoeooaaDoorFormatStepsC
import Derived.Test.YtodkbabdaoeooaaDoorFormatStepsL
namespace Go.Proofs.YtodkbabdaoeooaaDoor
open Go Go.Proofs Go.Vl Go.ChangeShapes Go.WideShapes Go.ChangeAt Go.RowKit
def Tryd.rep :List (TypeId×DTy):=[]
theorem Tryd.repOk :ZSx Tryd.prog Tryd.rep=true:=by kernel_rfl
theorem Tryd.own :ownKnob Tryd.prog.godebug=none:=by kernel_rfl
theorem Tryd.laidOut :laidOutB Tryd.prog=true:=by kernel_rfl
theorem Tryd.tys :tyB Tryd.prog [5,22]=true:=by kernel_rfl
set_option maxRecDepth 100000 in
theorem law_args (xs:List AV)(h:ZBW Tryd.prog Tryd.f3.params.toList xs):PureCall Tryd.prog (ZL5 0) 3 xs (.lit (.bool true)):=by
  rw[Tryd.params3]at h
  simp only[ZBW]at h
  obtain⟨x0,r0,rfl,h0,rfl⟩:=h
  simp only[ZBg,Tryd.underlying22]at h0
  obtain⟨n0,g0⟩:=h0
  obtain⟨v0,e0,o0⟩:=ZJV Tryd.underlying22 Tryd.underlying5 g0
  cases e0
  exact C.f144 (ZL5 0) (ZPl 0) ⟨ZPm 0,ZL4 0⟩ v0 true (P.FnFormatSteps v0 o0)
set_option maxRecDepth 100000 in
theorem lifted (os : Os) (started : os.Started) (H : Type) (enc : TypeId × Value -> H) :
    ReturnsInHanded {} Tryd.checked os 3 .any (fun w args=>(Rows.fnFormatStepsSpec.pre enc Tryd.prog Tryd.f3 [] false w args/\laidMetH Tryd.prog Rows.fnFormatStepsRow.laid w)/\sizedMet enc Tryd.prog Tryd.f3 (OpenSpec.ofChange Rows.fnFormatStepsSpec) false w args)
      (Rows.fnFormatStepsSpec.post enc Tryd.prog Tryd.f3 false true false false):=by
  refine returnsInHanded_of_change_and (C:=Tryd.checked) (X:=fun w _=>laidMetH Tryd.prog Rows.fnFormatStepsRow.laid w) (fun _ _ _ hh h=>h.of_heap hh) Tryd.own started (by kernel_rfl) Tryd.func3
    (ChangeSpec.witness_shaped (enc:=enc) (C:=Tryd.checked) (os:=os) (X:=fun w _=>laidMetH Tryd.prog Rows.fnFormatStepsRow.laid w) false (World.laidAll Tryd.prog os Rows.fnFormatStepsRow.laid) #[.slice none 0 0] 8 (World.laidAll_os _ _ _)
      (World.shaped_of_ZipB (by kernel_rfl) (by kernel_rfl)) (by kernel_rfl) (by kernel_rfl) (by kernel_rfl)
      (by rw[MakeChecks.laidMetH_plain _ _ _ (by kernel_rfl)];exact laidMet_laidAll _ (by kernel_rfl) (by kernel_rfl))) ?_
  intro W base args ds gs before hval hW _ _ hX _
  rw[MakeChecks.laidMetH_plain _ _ _ (by kernel_rfl)]at hX
  have htab:TbW (ZL5 0) W:=TbW.of_tab (Lib.tabIs_of_head (g:=0) (t:=119) (e:=92) (n:=20) (by kernel_rfl) (by kernel_rfl) Tryd.underlying119 Tryd.underlying92 (by kernel_rfl) (by kernel_rfl) (ZIj (ZIj hX))) (by kernel_rfl) (ZL4 0)
  refine ZMn (B':=ZL5 0) (ZPn 0) (tb:=4) Tryd.laidOut Tryd.tys (of_decide_eq_true (by kernel_rfl)) (by kernel_rfl) (by kernel_rfl) rfl ?_ law_args hval hW htab
  intro ds hds
  rw[Tryd.params3]at hds
  match ds,hds with
  | [d0],_=>rfl
theorem FnFormatSteps_row :Rows.FnFormatStepsSaid:=
  OpenClaim.holds_of_wide 3 Tryd.f3 rfl rfl rfl rfl rfl rfl rfl ⟨rfl,rfl,rfl,rfl,rfl⟩ rfl rfl rfl rfl rfl (by kernel_rfl) Tryd.func3 (by kernel_rfl)
    (of_decide_eq_true (by kernel_rfl)) (by unfold Func.isWrapper;rw[if_neg (of_decide_eq_false (by kernel_rfl))];exact⟨rfl,rfl⟩)
    (fun os started H enc _=>lifted os started H enc)
theorem FnFormatSteps_holds :Rows.FnFormatStepsCardSaid:=
  Claim7.holds_tied_plain_at .later [] Rows.fnFormatStepsCard.laidKinds true Rows.fnFormatStepsCard.stood.harness false FnFormatSteps_row (fun _ h=>by cases h) (by kernel_rfl) (fun _ h=>by cases h) fnFormatSteps_row_tie rfl ⟨rfl,rfl⟩ (by kernel_rfl) rfl
    (fun f fn hf hfn=>by
      obtain rfl:f=3:=Option.some.inj ((show Tryd.prog.funcNamed Rows.fnFormatStepsRow.func=some 3 by kernel_rfl).symm.trans hf)|>.symm
      obtain rfl:fn=Tryd.f3:=(Option.some.inj (Tryd.func3.symm.trans hfn)).symm
      exact⟨by kernel_rfl,fun j t ht=>by
        rw[Tryd.params3]at ht
        have hm:t∈[22]:=by simpa using Array.mem_of_getElem? ht
        have hall:([22].all fun u=> !Tryd.prog.wantsStandIn u)=true:=by kernel_rfl
        exact(show Tryd.prog.wantsStandIn t=false by simpa using List.all_eq_true.1 hall t hm)⟩)
    (by kernel_rfl)
end Go.Proofs.YtodkbabdaoeooaaDoor
