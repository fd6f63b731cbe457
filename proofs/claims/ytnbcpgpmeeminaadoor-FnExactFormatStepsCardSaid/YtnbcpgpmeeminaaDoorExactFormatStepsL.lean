/- The plain law of FnExactFormatSteps. -/
import Derived.Test.YtnbcpgpmeeminaaDoorExactFormatStepsB
set_option linter.all false
namespace Go.Vl
open Go Go.RowKit
theorem P.FnExactFormatSteps (x:List Step)(ho:okL Step.Ok x):F.f38 x=some true:=by
  unfold F.f38
  rw[P.szStepS x ho _ (by omega) (by omega)]
  simp only[Option.bind_eq_bind,Option.bind_some]
  split
  · rfl
  · next h=>
    have hw:=rem_small h
    rw[P.toStepS x (by omega)]
    simp only[Option.bind_some]
    rw[P.spec_stepsT ho.2 (by omega),P.impl_stepsT ho.2 (by omega)]
    simp[P.eqStepS,dec_of]
end Go.Vl
