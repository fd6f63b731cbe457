/-
  PROVED HERE: laws.FnFormatNodes returns true for all arguments, and what it was given reads behind the call as it read before.
  Conditions: none.
-/
import Derived.Test.YtodkbabdaoeooaaGreatDoorRows
import Derived.Test.YtodkbabdaoeooaaGreatDoorTie
import Derived.Test.YtodkbabdaoeooaaGreatDoorCards
import Derived.SevenTiedAt
import Derived.Lay
import Derived.Handy
import Derived.Test.YtodkbabdaoeooaaGreatDoorFormatNodesC
import Derived.Test.YtodkbabdaoeooaaGreatDoorFormatNodesL
namespace Go.Proofs.YtodkbabdaoeooaaGreatDoor
open Go Go.Proofs Go.Vl Go.ChangeShapes Go.WideShapes Go.ChangeAt Go.RowKit
def Tryz.rep :List (TypeId×DTy):=[]
theorem Tryz.repOk :ZR7 Tryz.prog Tryz.rep=true:=by kernel_rfl
theorem Tryz.own :ownKnob Tryz.prog.godebug=none:=by kernel_rfl
theorem Tryz.laidOut :laidOutB Tryz.prog=true:=by kernel_rfl
theorem Tryz.tys :tyB Tryz.prog [5,22]=true:=by kernel_rfl
set_option maxRecDepth 100000 in
theorem law_args (xs:List AV)(h:ZBb Tryz.prog Tryz.f3.params.toList xs):PureCall Tryz.prog (ZLZ 0) 3 xs (.lit (.bool true)):=by
  rw[Tryz.params3]at h
  simp only[ZBb]at h
  obtain⟨x0,r0,rfl,h0,rfl⟩:=h
  simp only[ZBl,Tryz.underlying22]at h0
  obtain⟨n0,g0⟩:=h0
  obtain⟨v0,e0,o0⟩:=ZI9 Tryz.underlying22 Tryz.underlying5 g0
  cases e0
  exact C.f198 (ZLZ 0) (ZOy 0) ⟨ZOz 0,ZLY 0⟩ v0 true (P.FnFormatNodes v0 o0)
set_option maxRecDepth 100000 in
theorem lifted (os : Os) (started : os.Started) (H : Type) (enc : TypeId × Value -> H) :
    ReturnsInHanded {} Tryz.checked os 3 .any (fun w args=>(Rows.fnFormatNodesSpec.pre enc Tryz.prog Tryz.f3 [] false w args/\laidMetH Tryz.prog Rows.fnFormatNodesRow.laid w)/\sizedMet enc Tryz.prog Tryz.f3 (OpenSpec.ofChange Rows.fnFormatNodesSpec) false w args)
      (Rows.fnFormatNodesSpec.post enc Tryz.prog Tryz.f3 false true false false):=by
  refine returnsInHanded_of_change_and (C:=Tryz.checked) (X:=fun w _=>laidMetH Tryz.prog Rows.fnFormatNodesRow.laid w) (fun _ _ _ hh h=>h.of_heap hh) Tryz.own started (by kernel_rfl) Tryz.func3
    (ChangeSpec.witness_shaped (enc:=enc) (C:=Tryz.checked) (os:=os) (X:=fun w _=>laidMetH Tryz.prog Rows.fnFormatNodesRow.laid w) false (World.laidAll Tryz.prog os Rows.fnFormatNodesRow.laid) #[.slice none 0 0] 8 (World.laidAll_os _ _ _)
      (World.shaped_of_ZipB (by kernel_rfl) (by kernel_rfl)) (by kernel_rfl) (by kernel_rfl) (by kernel_rfl)
      (by rw[MakeChecks.laidMetH_plain _ _ _ (by kernel_rfl)];exact laidMet_laidAll _ (by kernel_rfl) (by kernel_rfl))) ?_
  intro W base args ds gs before hval hW _ _ hX _
  rw[MakeChecks.laidMetH_plain _ _ _ (by kernel_rfl)]at hX
  have htab:TbW (ZLZ 0) W:=TbW.of_tab (Lib.tabIs_of_head (g:=0) (t:=200) (e:=149) (n:=20) (by kernel_rfl) (by kernel_rfl) Tryz.underlying200 Tryz.underlying149 (by kernel_rfl) (by kernel_rfl) (ZIR (ZIR hX))) (by kernel_rfl) (ZLY 0)
  refine ZMJ (B':=ZLZ 0) (ZO0 0) (tb:=4) Tryz.laidOut Tryz.tys (of_decide_eq_true (by kernel_rfl)) (by kernel_rfl) (by kernel_rfl) rfl ?_ law_args hval hW htab
  intro ds hds
  rw[Tryz.params3]at hds
  match ds,hds with
  | [d0],_=>rfl
theorem FnFormatNodes_row :Rows.FnFormatNodesSaid:=
  OpenClaim.holds_of_wide 3 Tryz.f3 rfl rfl rfl rfl rfl rfl rfl ⟨rfl,rfl,rfl,rfl,rfl⟩ rfl rfl rfl rfl rfl (by kernel_rfl) Tryz.func3 (by kernel_rfl)
    (of_decide_eq_true (by kernel_rfl)) (by unfold Func.isWrapper;rw[iN (of_decide_eq_false (by kernel_rfl))];exact⟨rfl,rfl⟩)
    (fun os started H enc _=>lifted os started H enc)
theorem FnFormatNodes_holds :Rows.FnFormatNodesCardSaid:=
  Claim7.holds_tied_plain_at .later [] Rows.fnFormatNodesCard.laidKinds true Rows.fnFormatNodesCard.stood.harness false FnFormatNodes_row (fun _ h=>by cases h) (by kernel_rfl) (fun _ h=>by cases h) fnFormatNodes_row_tie rfl ⟨rfl,rfl⟩ (by kernel_rfl) rfl
    (fun f fn hf hfn=>by
      obtain rfl:f=3:=Option.some.inj ((show Tryz.prog.funcNamed Rows.fnFormatNodesRow.func=some 3 by kernel_rfl).symm.trans hf)|>.symm
      obtain rfl:fn=Tryz.f3:=(Option.some.inj (Tryz.func3.symm.trans hfn)).symm
      exact⟨by kernel_rfl,fun j t ht=>by
        rw[Tryz.params3]at ht
        have hm:t∈[22]:=by simpa using Array.mem_of_getElem? ht
        have hall:([22].all fun u=> !Tryz.prog.wantsStandIn u)=true:=by kernel_rfl
        exact(show Tryz.prog.wantsStandIn t=false by simpa using List.all_eq_true.1 hall t hm)⟩)
    (by kernel_rfl)
end Go.Proofs.YtodkbabdaoeooaaGreatDoor
