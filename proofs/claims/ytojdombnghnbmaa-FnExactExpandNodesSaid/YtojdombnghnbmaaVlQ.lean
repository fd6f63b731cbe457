/- The value-level layer, part 29: plain loops. -/
import Derived.Test.YtojdombnghnbmaaVlP
set_option linter.unusedSimpArgs false
set_option linter.unusedVariables false
namespace Go.Vl
open Go Go.RowKit
theorem appLoop {α β:Type}{a:List α}{g:α→β}{f:α→Option β}{L:List β→Nat→Option (List β)}
  (hL:∀out i,L out i=if i<a.length then a[i]? >>=fun x=>f x>>=fun v=>if out.length+1≤67108864 then L (out++[v]) (i+1)else none else some out)
  (hf:∀x,x∈a→f x=some (g x)):∀(m i:Nat) (out:List β),a.length-i=m→out.length+m≤67108864→L out i=some (out++(a.drop i).map g):=by
 intro m
 induction m with
 |zero=>
  intro i out hm h0
  rw[hL,if_neg (by omega),List.drop_eq_nil_of_le (by omega)];simp
 |succ m ih=>
  intro i out hm h0
  have hi:i<a.length:=by omega
  rw[hL,if_pos hi,List.getElem?_eq_getElem hi,List.drop_eq_getElem_cons hi]
  simp only[List.map_cons,Option.bind_eq_bind,Option.bind_some]
  rw[hf _ (List.getElem_mem hi)]
  simp only[Option.bind_some]
  rw[if_pos (by omega),ih (i+1) _ (by omega) (by simp;omega)]
  simp
theorem allLoop {α:Type}{a:List α}{Q:Nat→α→Prop}{L:Nat→Option (Lo Bool Unit)}(h0:∀k,¬k<a.length→L k=some (.go ()))(h1:∀k (h:k<a.length),Q k a[k]→L k=L (k+1))
  (h2:∀k (h:k<a.length),¬Q k a[k]→L k=some (.ret false)):∀(m k:Nat),a.length-k=m→L k=some (if dec (∀j (h:j<a.length),k≤j→Q j a[j])=true then .go ()else .ret false):=by
 intro m
 induction m with
 |zero=>
  intro k hm
  rw[h0 k (by omega),if_pos (dec_of fun j h hj=>by omega)]
 |succ m ih=>
  intro k hm
  have hk:k<a.length:=by omega
  by_cases hq:Q k a[k]
  ·rw[h1 k hk hq,ih (k+1) (by omega)]
   by_cases hall:∀j (h:j<a.length),k+1≤j→Q j a[j]
   ·rw[if_pos (dec_of hall),if_pos (dec_of fun j h hj=> ?_)]
    by_cases e:k=j
    ·subst e;exact hq
    ·exact hall j h (by omega)
   ·rw[if_neg (by rw[dec_not hall];simp),if_neg (by rw[dec_not fun hh=>hall fun j h hj=>hh j h (by omega)];simp)]
  ·rw[h2 k hk hq,if_neg (by rw[dec_not fun hh=>hq (hh k hk (Nat.le_refl _))];simp)]
theorem rem_small {l:Int}{n:Nat}(h:¬rem l n<0):(n:Int)≤l:=by simp only[rem]at h;split at h<;>omega
theorem at_lt {α:Type}{a:List α}{k:Nat}(h:k<a.length):at? a (k:Int)=some a[k]:=by rw[at_nat,List.getElem?_eq_getElem h]
theorem dec_eq {p:Prop}[Decidable p]:dec p=decide p:=by by_cases h:p<;>simp[h]
theorem dec_congr {p q:Prop}(h:p↔q):dec p=dec q:=by by_cases hp:p<;>simp[dec_of,dec_not,hp,h.1,mt h.2]
end Go.Vl
