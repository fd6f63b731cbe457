/- A part of the proof. -/
import Derived.Test.YtodkbabdaoeooaaDoorVlP
set_option linter.all false
namespace Go.Vl
open Go Go.RowKit
theorem ZPf {α β:Type}{a:List α}{g:α->β}{f:α->Option β}{L:List β->Nat->Option (List β)}
  (hL:∀out i,L out i=if i<a.length then a[i]? >>=fun x=>f x>>=fun v=>if out.length+1<=67108864 then L (out++[v]) (i+1)else none else some out)
  (hf:∀x,x∈a->f x=some (g x)):∀(m i:Nat) (out:List β),a.length-i=m->out.length+m<=67108864->L out i=some (out++(a.drop i).map g):=by
 intro m
 induction m with
 |zero=>
  intro i out hm h0
  rw[hL,if_neg (by omega),List.drop_eq_nil_of_le (by omega)];simp
 |succ m ih=>
  intro i out hm h0
  have hi:i<a.length:=by omega
  rw[hL,if_pos hi,List.getElem?_eq_getElem hi,List.drop_eq_getElem_cons hi]
  simp only[List.map_cons,Option.bind_eq_bind,Option.bind_some]
  rw[hf _ (List.getElem_mem hi)]
  simp only[Option.bind_some]
  rw[if_pos (by omega),ih (i+1) _ (by omega) (by simp;omega)]
  simp
theorem ZTD {R S:Type}{n:Nat}{Q:Nat->Prop}{r:R}{p:S}{L:Nat->Option (Lo R S)}(h0:∀k,n<=k->L k=some (.go p))(h1:∀k,k<n->Q k->L k=L (k+1))
  (h2:∀k,k<n->¬Q k->L k=some (.ret r)):∀(m k:Nat),n-k=m->L k=some (if dec (∀j,k<=j->j<n->Q j)=true then .go p else .ret r):=by
 intro m
 induction m with
 |zero=>
  intro k hm
  rw[h0 k (by omega),if_pos (ZJ fun j hj h=>by omega)]
 |succ m ih=>
  intro k hm
  have hk:k<n:=by omega
  by_cases hq:Q k
  ·rw[h1 k hk hq,ih (k+1) (by omega)]
   by_cases hall:∀j,k+1<=j->j<n->Q j
   ·rw[if_pos (ZJ hall),if_pos (ZJ fun j hj h=> ?_)]
    by_cases e:k=j
    ·subst e;exact hq
    ·exact hall j (by omega) h
   ·rw[if_neg (by rw[ZF hall];simp),if_neg (by rw[ZF fun hh=>hall fun j hj h=>hh j (by omega) h];simp)]
  ·rw[h2 k hk hq,if_neg (by rw[ZF fun hh=>hq (hh k (Nat.le_refl _) hk)];simp)]
theorem ZLs {R:Type}{n:Nat}{Q:Nat->Prop}{r:R}{L:Nat->Option (Lo R Unit)}(h0:∀k,n<=k->L k=some (.go ()))(h1:∀k,k<n->Q k->L k=L (k+1))
  (h2:∀k,k<n->¬Q k->L k=some (.ret r)):∀(m k:Nat),n-k=m->L k=some (if dec (∀j,k<=j->j<n->Q j)=true then .go ()else .ret r):=ZTD h0 h1 h2
theorem ZEL {α:Type}{a:List α}{k:Nat}(h:k<a.length):at? a (k:Int)=some a[k]:=by rw[ZLp,List.getElem?_eq_getElem h]
theorem ZAq {p:Prop}[Decidable p]:dec p=decide p:=by by_cases h:p<;>simp[h]
theorem ZX {p q:Prop}(h:p↔q):dec p=dec q:=by by_cases hp:p<;>simp[ZJ,ZF,hp,h.1,mt h.2]
theorem ZJV {P:Program}{n:Nat}{t e:TypeId}{as:List AV}(h1:P.underlying t=some (.slice e))(h2:P.underlying e=some (.int .u8))(h:ZAZ P n t as):
  ∃xs:List Int,as=[.arr (xs.map cU)]/\xs.length<=maxLen/\∀x,x∈xs->0<=x/\x<=255:=by
 cases n with
 |zero=>exact h.elim
 |succ n=>
  unfold ZAZ at h
  rw[h1]at h
  obtain⟨es,rfl,hl,hx⟩:=h
  have key:∀l:List (List AV),(∀x,x∈l->x∈es)->∃xs:List Int,l=xs.map cU/\∀x,x∈xs->0<=x/\x<=255:=by
   intro l
   induction l with
   |nil=>intro _;exact⟨[],rfl,fun x hx=>by cases hx⟩
   |cons a r ih=>
    intro hm
    obtain⟨xs,hxs,hb⟩:=ih fun x hx=>hm x (List.mem_cons_of_mem _ hx)
    have ha:=(hx a (hm a (List.mem_cons_self ..))).2
    cases n with
    |zero=>exact ha.elim
    |succ n=>
     unfold ZAZ at ha
     rw[h2]at ha
     obtain⟨i,rfl,hi⟩:=ha
     refine⟨i::xs,by rw[hxs];rfl,fun x hx=> ?_⟩
     rcases List.mem_cons.1 hx with rfl|hx
     ·have h1:IntKind.u8.min=0:=by decide
      have h2:IntKind.u8.max=255:=by decide
      simpa[Lit.wf,h1,h2]using hi
     ·exact hb x hx
  obtain⟨xs,rfl,hb⟩:=key es fun x hx=>hx
  exact⟨xs,rfl,by simpa using hl,hb⟩
end Go.Vl
