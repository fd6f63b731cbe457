/-
  PROVED HERE: laws.FnExactFormatNodes returns true for all arguments, and what it was given reads behind the call as it read before.
  Conditions: none.
-/
import Derived.Test.YtnbcpgpmeeminaaDoorRows
import Derived.Test.YtnbcpgpmeeminaaDoorTie
import Derived.Test.YtnbcpgpmeeminaaDoorCards
import Derived.SevenTiedAt
import Derived.Lay
import Derived.Handy
import Derived.Test.YtnbcpgpmeeminaaDoorExactFormatNodesC
import Derived.Test.YtnbcpgpmeeminaaDoorExactFormatNodesL
namespace Go.Proofs.YtnbcpgpmeeminaaDoor
open Go Go.Proofs Go.Vl Go.ChangeShapes Go.WideShapes Go.ChangeAt Go.RowKit
def Tryd.rep :List (TypeId×DTy):=[(3,.int),(29,.list (.named 16)),(37,.list .int),(38,.list (.named 12)),(61,.list (.named 15)),(63,.named 16),(88,.named 12),(95,.named 15)]
theorem Tryd.repOk :repB Tryd.prog Tryd.rep=true:=by kernel_rfl
theorem Tryd.own :ownKnob Tryd.prog.godebug=none:=by kernel_rfl
theorem Tryd.laidOut :laidOutB Tryd.prog=true:=by kernel_rfl
theorem Tryd.tys :tyB Tryd.prog [3,29,37,38,61,63,88,95]=true:=by kernel_rfl
set_option maxRecDepth 100000 in
theorem law_args (xs:List AV)(h:TypedArgs Tryd.prog Tryd.f4.params.toList xs):PureCall Tryd.prog (BIGT 0) 4 xs (.lit (.bool true)):=by
  rw[Tryd.params4]at h
  simp only[TypedArgs]at h
  obtain⟨x0,r0,rfl,h0,rfl⟩:=h
  simp only[TypedArg,Tryd.underlying29]at h0
  obtain⟨n0,g0⟩:=h0
  obtain⟨d0,e0,i0⟩:=Is.of_typed Tryd.repOk n0 29 (.list (.named 16)) _ rfl g0
  obtain⟨es0,rfl,l0,m0⟩:=i0.list_inv
  obtain⟨v0,c0,o0⟩:=open_list (c:=Node.c) (Q:=Node.Ok) m0 l0 (fun k _ hi=>Node.open k hi)
  rw[D.cells_list]at e0
  cases e0
  rw[←c0]
  exact C.f58 (BIGT 0) (BIGT_lo 0) ⟨BIGT_hi 0,BIGT_tb 0⟩ v0 true (P.FnExactFormatNodes v0 o0)
set_option maxRecDepth 100000 in
theorem lifted (os : Os) (started : os.Started) (H : Type) (enc : TypeId × Value → H) :
    ReturnsInHanded {} Tryd.checked os 4 .any (fun w args=>(Rows.fnExactFormatNodesSpec.pre enc Tryd.prog Tryd.f4 [] false w args∧laidMetH Tryd.prog Rows.fnExactFormatNodesRow.laid w)∧sizedMet enc Tryd.prog Tryd.f4 (OpenSpec.ofChange Rows.fnExactFormatNodesSpec) false w args)
      (Rows.fnExactFormatNodesSpec.post enc Tryd.prog Tryd.f4 false true false false):=by
  refine returnsInHanded_of_change_and (C:=Tryd.checked) (X:=fun w _=>laidMetH Tryd.prog Rows.fnExactFormatNodesRow.laid w) (fun _ _ _ hh h=>h.of_heap hh) Tryd.own started (by kernel_rfl) Tryd.func4
    (ChangeSpec.witness_shaped (enc:=enc) (C:=Tryd.checked) (os:=os) (X:=fun w _=>laidMetH Tryd.prog Rows.fnExactFormatNodesRow.laid w) false (World.laidAll Tryd.prog os Rows.fnExactFormatNodesRow.laid) #[.slice none 0 0] 8 (World.laidAll_os _ _ _)
      (World.shaped_of_ZipB (by kernel_rfl) (by kernel_rfl)) (by kernel_rfl) (by kernel_rfl) (by kernel_rfl)
      (by rw[MakeChecks.laidMetH_plain _ _ _ (by kernel_rfl)];exact laidMet_laidAll _ (by kernel_rfl) (by kernel_rfl))) ?_
  intro W base args ds gs before hval hW _ _ hX _
  rw[MakeChecks.laidMetH_plain _ _ _ (by kernel_rfl)]at hX
  have htab:TbW (BIGT 0) W:=TbW.of_tab (Lib.tabIs_of_head (g:=0) (t:=106) (e:=99) (n:=20) (by kernel_rfl) (by kernel_rfl) Tryd.underlying106 Tryd.underlying99 (by kernel_rfl) (by kernel_rfl) (laidTail (laidTail hX))) (by kernel_rfl) (BIGT_tb 0)
  refine law_anyT (B':=BIGT 0) (BIGT_eq 0) (tb:=4) Tryd.laidOut Tryd.tys (of_decide_eq_true (by kernel_rfl)) (by kernel_rfl) (by kernel_rfl) rfl ?_ law_args hval hW htab
  intro ds hds
  rw[Tryd.params4]at hds
  match ds,hds with
  | [d0],_=>rfl
theorem FnExactFormatNodes_row :Rows.FnExactFormatNodesSaid:=
  OpenClaim.holds_of_wide 4 Tryd.f4 rfl rfl rfl rfl rfl rfl rfl ⟨rfl,rfl,rfl,rfl,rfl⟩ rfl rfl rfl rfl rfl (by kernel_rfl) Tryd.func4 (by kernel_rfl)
    (of_decide_eq_true (by kernel_rfl)) (by unfold Func.isWrapper;rw[if_neg (of_decide_eq_false (by kernel_rfl))];exact⟨rfl,rfl⟩)
    (fun os started H enc _=>lifted os started H enc)
theorem FnExactFormatNodes_holds :Rows.FnExactFormatNodesCardSaid:=
  Claim7.holds_tied_plain_at .later [] Rows.fnExactFormatNodesCard.laidKinds true Rows.fnExactFormatNodesCard.stood.harness false FnExactFormatNodes_row (fun _ h=>by cases h) (by kernel_rfl) (fun _ h=>by cases h) fnExactFormatNodes_row_tie rfl ⟨rfl,rfl⟩ (by kernel_rfl) rfl
    (fun f fn hf hfn=>by
      obtain rfl:f=4:=Option.some.inj ((show Tryd.prog.funcNamed Rows.fnExactFormatNodesRow.func=some 4 by kernel_rfl).symm.trans hf)|>.symm
      obtain rfl:fn=Tryd.f4:=(Option.some.inj (Tryd.func4.symm.trans hfn)).symm
      exact⟨by kernel_rfl,fun j t ht=>by
        rw[Tryd.params4]at ht
        have hm:t∈[29]:=by simpa using Array.mem_of_getElem? ht
        have hall:([29].all fun u=> !Tryd.prog.wantsStandIn u)=true:=by kernel_rfl
        exact(show Tryd.prog.wantsStandIn t=false by simpa using List.all_eq_true.1 hall t hm)⟩)
    (by kernel_rfl)
end Go.Proofs.YtnbcpgpmeeminaaDoor
