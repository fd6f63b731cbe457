/- The value-level layer: a new cell that may come at any place, behind edges and in another order of the text. -/
import Derived.Test.YtnmbhmbljbhonaaVlFloat
set_option linter.all false
namespace Go.Vl
open Go Go.RowKit
section
variable {P : Program} {B nb N : Nat}
theorem ADraw.effLP {ops:Array Oper}{fr:Frm}{σ:ZD}{K:ASt→Prop}{b':Box K}(es0:List (Nat×Nat))(ord:List Nat)(es:List (Nat×Nat))(F j0:Nat)(fs:List FuncId)(tab:List (Nat×Nat))(xs:List Nat)(hm:P.follows .mixedOrders=true)
  (hp:ZGS ord ops.size=true) (hd:ZAm fs (ZU es (ZAL ord (ZU es0 ops)))=true) (ht:ZKR fs (ZU es (ZAL ord (ZU es0 ops))) tab=true) (hx:ZCJ fs (ZU es (ZAL ord (ZU es0 ops))) tab (xs.map (· ==1))=true)
  (hfl:ZHT fs (ZAL ord (ZU es0 ops)) es F=true) (hF:ord.idxOf j0=F) (hjk:∀d,(ops[j0]?).bind (fun o:Oper=>o.dst)=some d→lk fr d=.junk)
  (h:aL fs P B N (hold ops .mk) (ZCZ ord ops.toList) xs tab fr [σ] [] [] (hold (fun fr' σ'=>K ⟨fr',σ'⟩) .mk)):ADraw P B nb N (ZU es0 ops) ⟨fr,σ⟩ (hold K b'):=by
 have hp':ZGS ord (ZU es0 ops).size=true:=by rw[ZS];exact hp
 have hk:=PermOk.of hp'
 have hdst:∀j,((ZAL ord (ZU es0 ops))[ord.idxOf j]?).bind (·.dst)=(ops[j]?).bind (·.dst):=by
  intro j
  rw[ZDM hk]
  obtain⟨g,h1,h2⟩:=ZAW es0 j ops
  rw[h2]
  cases ops[j]? with
  |none=>rfl
  |some o=>exact(h1 o).2.1
 refine ADraw.perm ord hp' ?_
 refine ADraw.effL (ops:=ZAL ord (ZU es0 ops)) (bo:=.mk) es F fs tab xs hm hd ht hx hfl (fun d hd2=>hjk d (by rw[←hdst j0,hF];exact hd2)) ?_
 refine ZG7 (ops:=ops) (ZCZ ord ops.toList) _ xs tab fr [σ] [] [] (by simp[ZAL,ZCZ]) (fun i o o' ho ho'=> ?_) h
 have hi:i<ord.length:=by
  have:=(List.getElem?_eq_some_iff.1 ho).1
  simpa[ZCZ]using this
 have hin:ord[i]<ops.size:=by have:=hk.lt i hi;rwa[ZS]at this
 have e1:ops.toList.getD ord[i] ZLN=o:=by
  unfold ZCZ at ho
  rw[List.getElem?_map,List.getElem?_eq_getElem hi]at ho
  exact Option.some.inj ho
 have e2:ZDx ord ((ZU es0 ops).getD ord[i] ZLN)=o':=by
  unfold ZAL at ho'
  simp only[List.toList_toArray]at ho'
  rw[List.getElem?_map,List.getElem?_eq_getElem hi]at ho'
  exact Option.some.inj ho'
 obtain⟨g,h1,h2⟩:=ZAW es0 ord[i] ops
 have e3:(ZU es0 ops).getD ord[i] ZLN=g o:=by
  rw[Array.getD_eq_getD_getElem?,h2,←e1,List.getD_eq_getElem?_getD,Array.getElem?_toList,Array.getElem?_eq_getElem hin];rfl
 rw[e3]at e2
 subst e2
 refine⟨(h1 o).1,(h1 o).2.1,?_⟩
 unfold ZDx
 rw[(h1 o).2.2]
 cases hg:o.guard with
 |none=>exact .inl ⟨rfl,rfl⟩
 |some p=>obtain⟨j,w⟩:=p;exact .inr ⟨j,ord.idxOf j,w,rfl,rfl,hdst j⟩
end
end Go.Vl
