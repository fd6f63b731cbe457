/- A part of the proof. -/
import Derived.Test.YtoiccjladkadgaaGreatVlWorld
set_option linter.all false
namespace Go.Vl
open Go
section
variable {B : Nat} {w : World}
theorem DVs.len {xs:List AV}{vs:List Value}{F:List Nat}(h:DVs B w xs vs F):vs.length=xs.length:=by
 induction h with
 |nil=>rfl
 |lit v h ih=>simp[ih]
 |emp a cap h ih=>simp[ih]
 |arr es b sz cap ccs ty hB hne hsz hcap hh hsize hx h ih1 ih2=>simp[ih2]
theorem ZJu {α:Type}{sz:Nat}:∀{es:List (List α)} (_:∀e,e∈es->e.length=sz) {i:Nat} {e:List α} {k:Nat} {x:α},es[i]? =some e->e[k]? =some x->es.flatten[i*sz+k]? =some x
 | [],_,i,e,k,x,h1,_=>by simp at h1
 |a::es,hsz,i,e,k,x,h1,h2=>by
  have ha:=hsz a (List.mem_cons_self ..)
  cases i with
  |zero=>
   simp at h1;subst h1
   rw[List.flatten_cons,Nat.zero_mul,Nat.zero_add,List.getElem?_append_left (List.getElem?_eq_some_iff.1 h2).1];exact h2
  |succ i=>
   rw[List.flatten_cons,List.getElem?_append_right (by rw[ha,Nat.succ_mul];omega),ha]
   have e':(i+1)*sz+k-sz=i*sz+k:=by rw[Nat.succ_mul];omega
   rw[e']
   exact ZJu (fun e he=>hsz e (List.mem_cons_of_mem _ he)) (by simpa using h1) h2
theorem DVs.conc {W:Nat->Prop}{xs:List AV}{vs:List Value}{F:List Nat}(h:DVs B w xs vs F):(∀b,b∈F->¬W b)->∀(i:Nat) (x:AV),xs[i]? =some x->∃v,vs[i]? =some v/\Conc B W w M0 x v:=by
 induction h with
 |nil=>intro _ i x hi;simp at hi
 |lit v h ih=>
  intro hF i x hi
  cases i with
  |zero=>simp at hi;subst hi;exact⟨v,rfl,.lit v⟩
  |succ i=>exact ih hF i x (by simpa using hi)
 |emp a cap h ih=>
  intro hF i x hi
  cases i with
  |zero=>simp at hi;subst hi;exact⟨_,rfl,.arrNil a cap⟩
  |succ i=>exact ih hF i x (by simpa using hi)
 |arr es b sz cap ccs ty hB hne hsz hcap hh hsize hx h ih1 ih2=>
  intro hF i x hi
  have hF1:¬W b:=hF b (by simp)
  have k1:=ih1 fun b' hb=>hF b' (by simp[hb])
  have k2:=ih2 fun b' hb=>hF b' (by simp[hb])
  cases i with
  |succ i=>exact k2 i x (by simpa using hi)
  |zero=>
   simp at hi;subst hi
   refine⟨_,rfl,?_⟩
   have hlen:=hx.len
   have get:∀i e k x,es[i]? =some e->e[k]? =some x->∃v,ccs[i*sz+k]? =some v/\Conc B W w M0 x v:=by
    intro i e k x h1 h2
    obtain⟨v,hv,hc⟩:=k1 _ x (ZJu hsz h1 h2)
    refine⟨v,?_,hc⟩
    rw[List.getElem?_take]at hv
    split at hv
    ·simpa using hv
    ·cases hv
   refine .arr es b 0 sz cap (fun i k=>ccs.getD (i*sz+k) undef) hB hsz hF1 (Array.getElem?_eq_some_iff.1 hh).1 hcap ?_ ?_
   ·intro i e k x h1 h2
    obtain⟨v,hv,_⟩:=get i e k x h1 h2
    rw[ZBJ hh,Nat.zero_add,hv,Array.getD_eq_getD_getElem?,hv];rfl
   ·intro i e k x h1 h2
    obtain⟨v,hv,hc⟩:=get i e k x h1 h2
    rw[Array.getD_eq_getD_getElem?,hv];exact hc
def ZAX :List AV->List (List (List AV))
 | []=>[]
 | .arr es::r=>es::ZAX r
 |_::r=>ZAX r
def ZFa :List AV->List Value->List AV
 | [],_=>[]
 | .arr _::r,h::hs=>.lit h::ZFa r hs
 |x::r,hs=>x::ZFa r hs
def ZJR :List (List (List AV))->List Value->ZA
 |es::r,h::hs=>.pack [.arr es] [h]::ZJR r hs
 |_,_=>[]
end
end Go.Vl
