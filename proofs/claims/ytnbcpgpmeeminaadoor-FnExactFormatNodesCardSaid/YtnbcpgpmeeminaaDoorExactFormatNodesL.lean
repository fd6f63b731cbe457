/- The plain law of FnExactFormatNodes. -/
import Derived.Test.YtnbcpgpmeeminaaDoorExactFormatNodesB
set_option linter.all false
namespace Go.Vl
open Go Go.RowKit
theorem P.FnExactFormatNodes (x:List Node)(ho:okL Node.Ok x):F.f58 x=some true:=by
  unfold F.f58
  rw[P.szNodeS x ho _ (by omega) (by omega)]
  simp only[Option.bind_eq_bind,Option.bind_some]
  split
  · rfl
  · next h=>
    have hw:=rem_small h
    have hl:=wtL_len Node.wt x
    rw[P.toNodeS x (by omega)]
    simp only[Option.bind_some]
    by_cases hv:1≤x.length∧x.length≤300∧∀j (h:j<x.length),nodeOk j x[j]
    · rw[P.spec_nodesT ho.2 (by omega) hv,P.impl_nodesT ho.2 (by omega) hv]
      simp[P.eqNodeS,dec_of]
    · rw[P.spec_nodesN (by omega) hv,P.impl_nodesN (by omega) hv]
      simp[P.eqNodeS,dec_of]
end Go.Vl
