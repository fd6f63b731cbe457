/- Part. -/
import Derived.Test.YtodkbabdaoeooaaGreatDoorVlFloat
set_option linter.all false
open List renaming getElem?_eq_getElem->zA,getElem?_map->zB
namespace Go.Vl
open Go Go.RowKit
section
variable {P : Program} {B nb N : Nat}
theorem ADraw.effLP {ops:Array Oper}{fr:Frm}{σ:ZE}{K:ASt->Prop}{b':Box K}(es0:List (Nat×Nat))(ord:List Nat)(es:List (Nat×Nat))(F j0:Nat)(fs:List FuncId)(tab:List (Nat×Nat))(xs:List Nat)(hm:P.follows .mixedOrders=true)
  (hp:ZG9 ord ops.size=true) (hd:ZA1 fs (ZW es (ZAM ord (ZW es0 ops)))=true) (ht:ZLo fs (ZW es (ZAM ord (ZW es0 ops))) tab=true) (hx:ZCc fs (ZW es (ZAM ord (ZW es0 ops))) tab (xs.map (· ==1))=true)
  (hfl:ZIY fs (ZAM ord (ZW es0 ops)) es F=true) (hF:ord.idxOf j0=F) (hjk:∀d,(ops[j0]?).bind (fun o:Oper=>o.dst)=some d->lk fr d=.junk)
  (hnz:∀t i,(ops[j0]?).map (fun o:Oper=>o.op)=some (.alloc t)->Zl P t=some i->ZBB t i.zero=.cells (i.zero.map .lit))
  (h:aL fs P B N (hold ops .mk) (ZCq ord ops.toList) xs tab fr [σ] [] [] (hold (fun fr' σ'=>K ⟨fr',σ'⟩) .mk)):ADraw P B nb N (ZW es0 ops) ⟨fr,σ⟩ (hold K b'):=by
 have hp':ZG9 ord (ZW es0 ops).size=true:=by rw[ZR];exact hp
 have hk:=PermOk.of hp'
 have hdst:∀j,((ZAM ord (ZW es0 ops))[ord.idxOf j]?).bind (·.dst)=(ops[j]?).bind (·.dst):=by
  intro j
  rw[ZDi hk]
  obtain⟨g,h1,h2⟩:=ZAK es0 j ops
  rw[h2]
  cases ops[j]? with
  |none=>rfl
  |some o=>exact(h1 o).2.1
 have hop:∀j,((ZAM ord (ZW es0 ops))[ord.idxOf j]?).map (fun o:Oper=>o.op)=(ops[j]?).map (fun o:Oper=>o.op):=by
  intro j
  rw[ZCT hk]
  obtain⟨g,h1,h2⟩:=ZAK es0 j ops
  rw[h2]
  cases ops[j]? with
  |none=>rfl
  |some o=>exact congrArg some (h1 o).1
 refine ADraw.perm ord hp' ?_
 refine ADraw.effL (ops:=ZAM ord (ZW es0 ops)) (bo:=.mk) es F fs tab xs hm hd ht hx hfl (fun d hd2=>hjk d (by rw[←hdst j0,hF];exact hd2)) (fun t i h1 h2=>hnz t i (by rw[←hop j0,hF];exact h1) h2) ?_
 refine ZHz (ops:=ops) (ZCq ord ops.toList) _ xs tab fr [σ] [] [] (by simp[ZAM,ZCq]) (fun i o o' ho ho'=> ?_) h
 have hi:i<ord.length:=by
  have:=(List.getElem?_eq_some_iff.1 ho).1
  simpa[ZCq]using this
 have hin:ord[i]<ops.size:=by have:=hk.lt i hi;rwa[ZR]at this
 have e1:ops.toList.getD ord[i] ZMj=o:=by
  unfold ZCq at ho
  rw[zB,zA hi]at ho
  exact Option.some.inj ho
 have e2:ZEG ord ((ZW es0 ops).getD ord[i] ZMj)=o':=by
  unfold ZAM at ho'
  simp only[List.toList_toArray]at ho'
  rw[zB,zA hi]at ho'
  exact Option.some.inj ho'
 obtain⟨g,h1,h2⟩:=ZAK es0 ord[i] ops
 have e3:(ZW es0 ops).getD ord[i] ZMj=g o:=by
  rw[Array.getD_eq_getD_getElem?,h2,←e1,List.getD_eq_getElem?_getD,Array.getElem?_toList,Array.getElem?_eq_getElem hin];rfl
 rw[e3]at e2
 subst e2
 refine⟨(h1 o).1,(h1 o).2.1,?_⟩
 unfold ZEG
 rw[(h1 o).2.2]
 cases hg:o.guard with
 |none=>exact .inl ⟨rfl,rfl⟩
 |some p=>obtain⟨j,w⟩:=p;exact .inr ⟨j,ord.idxOf j,w,rfl,rfl,hdst j⟩
end
end Go.Vl
