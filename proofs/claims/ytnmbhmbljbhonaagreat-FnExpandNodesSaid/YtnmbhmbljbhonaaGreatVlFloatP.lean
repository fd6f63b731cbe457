/- A part of the proof. -/
import Derived.Test.YtnmbhmbljbhonaaGreatVlFloat
set_option linter.all false
namespace Go.Vl
open Go Go.RowKit
section
variable {P : Program} {B nb N : Nat}
theorem ADraw.effLP {ops:Array Oper}{fr:Frm}{σ:ZF}{K:ASt->Prop}{b':Box K}(es0:List (Nat×Nat))(ord:List Nat)(es:List (Nat×Nat))(F j0:Nat)(fs:List FuncId)(tab:List (Nat×Nat))(xs:List Nat)(hm:P.follows .mixedOrders=true)
  (hp:ZFt ord ops.size=true) (hd:ZAv fs (ZV es (ZAI ord (ZV es0 ops)))=true) (ht:ZK7 fs (ZV es (ZAI ord (ZV es0 ops))) tab=true) (hx:ZCm fs (ZV es (ZAI ord (ZV es0 ops))) tab (xs.map (· ==1))=true)
  (hfl:ZGx fs (ZAI ord (ZV es0 ops)) es F=true) (hF:ord.idxOf j0=F) (hjk:∀d,(ops[j0]?).bind (fun o:Oper=>o.dst)=some d->lk fr d=.junk)
  (h:aL fs P B N (hold ops .mk) (ZCM ord ops.toList) xs tab fr [σ] [] [] (hold (fun fr' σ'=>K ⟨fr',σ'⟩) .mk)):ADraw P B nb N (ZV es0 ops) ⟨fr,σ⟩ (hold K b'):=by
 have hp':ZFt ord (ZV es0 ops).size=true:=by rw[ZT];exact hp
 have hk:=PermOk.of hp'
 have hdst:∀j,((ZAI ord (ZV es0 ops))[ord.idxOf j]?).bind (·.dst)=(ops[j]?).bind (·.dst):=by
  intro j
  rw[ZDA hk]
  obtain⟨g,h1,h2⟩:=ZAV es0 j ops
  rw[h2]
  cases ops[j]? with
  |none=>rfl
  |some o=>exact(h1 o).2.1
 refine ADraw.perm ord hp' ?_
 refine ADraw.effL (ops:=ZAI ord (ZV es0 ops)) (bo:=.mk) es F fs tab xs hm hd ht hx hfl (fun d hd2=>hjk d (by rw[←hdst j0,hF];exact hd2)) ?_
 refine ZGY (ops:=ops) (ZCM ord ops.toList) _ xs tab fr [σ] [] [] (by simp[ZAI,ZCM]) (fun i o o' ho ho'=> ?_) h
 have hi:i<ord.length:=by
  have:=(List.getElem?_eq_some_iff.1 ho).1
  simpa[ZCM]using this
 have hin:ord[i]<ops.size:=by have:=hk.lt i hi;rwa[ZT]at this
 have e1:ops.toList.getD ord[i] ZKf=o:=by
  unfold ZCM at ho
  rw[List.getElem?_map,List.getElem?_eq_getElem hi]at ho
  exact Option.some.inj ho
 have e2:ZDZ ord ((ZV es0 ops).getD ord[i] ZKf)=o':=by
  unfold ZAI at ho'
  simp only[List.toList_toArray]at ho'
  rw[List.getElem?_map,List.getElem?_eq_getElem hi]at ho'
  exact Option.some.inj ho'
 obtain⟨g,h1,h2⟩:=ZAV es0 ord[i] ops
 have e3:(ZV es0 ops).getD ord[i] ZKf=g o:=by
  rw[Array.getD_eq_getD_getElem?,h2,←e1,List.getD_eq_getElem?_getD,Array.getElem?_toList,Array.getElem?_eq_getElem hin];rfl
 rw[e3]at e2
 subst e2
 refine⟨(h1 o).1,(h1 o).2.1,?_⟩
 unfold ZDZ
 rw[(h1 o).2.2]
 cases hg:o.guard with
 |none=>exact .inl ⟨rfl,rfl⟩
 |some p=>obtain⟨j,w⟩:=p;exact .inr ⟨j,ord.idxOf j,w,rfl,rfl,hdst j⟩
end
end Go.Vl
