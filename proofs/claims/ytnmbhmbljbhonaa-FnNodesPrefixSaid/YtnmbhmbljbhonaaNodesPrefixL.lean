/- A part of the proof. -/
import Derived.Test.YtnmbhmbljbhonaaNodesPrefixB
set_option linter.all false
namespace Go.Vl
open Go Go.RowKit
open Go.IntKind (i64)
theorem P.FnNodesPrefix (code:List Int)(more:List Int)(hc:ZAm code)(hm:ZAm more):F.f182 code more=some true:=by
  unfold F.f182
  split
  · rfl
  split
  · rfl
  obtain⟨l,e,hl,_⟩:=P.YAh code hc
  unfold F.f171
  rw[e]
  simp only[oE,oS]
  rw[P.YM l (by omega),P.YY l]
  simp only[oS]
  rw[if_pos True.intro]
  by_cases hv:1<=l.length/\l.length<=300/\∀j (h:j<l.length),nodeOk j l[j]
  · rw[if_pos (ZJ hv),if_pos (by omega)]
    have t1:0<=(more.length:Int).tmod (l.length:Int):=Int.tmod_nonneg _ (by omega)
    have t2:(more.length:Int).tmod (l.length:Int)<l.length:=Int.tmod_lt_of_pos _ (by omega)
    obtain⟨n,hn⟩:∃n:Nat,i64.wrap (1+(more.length:Int).tmod (l.length:Int))=(n:Int)/\1<=n/\n<=l.length:=⟨(1+(more.length:Int).tmod (l.length:Int)).toNat,by rw[ZG (by omega) (by omega)];omega⟩
    rw[hn.1,if_pos (by omega),Int.toNat_natCast,List.drop_zero,Nat.sub_zero]
    have hlen:(l.take n).length=n:=by simp;omega
    rw[P.YM _ (by omega),ZJ]
    · rfl
    · refine⟨by omega,by omega,fun j h=> ?_⟩
      rw[List.getElem_take]
      exact hv.2.2 j (by omega)
  · rw[if_neg (by rw[ZH hv];decide)]
    simp only[decide_true]
end Go.Vl
