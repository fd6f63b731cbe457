/- The value-level layer: local arrays of a fixed size, as functions of the place. -/
import Derived.Test.YtbibfeagkocjlaaVlQ
set_option linter.all false
namespace Go.Vl
open Go Go.RowKit
def ZN1 {α:Type}(s:Nat→α)(i:Nat)(v:α):Nat→α:=fun k=>if k=i then v else s k
def fcB (n:Nat)(s:Nat→Bool):List AV:=(List.range n).map fun k=>.lit (.bool (s k))
def fcI (n:Nat)(s:Nat→Int):List AV:=(List.range n).map fun k=>.lit (.int .i64 (s k))
theorem ZF6 {n:Nat}{s:Nat→Bool}:(fcB n s).length=n:=by simp[fcB]
theorem ZF3 {n:Nat}{s:Nat→Int}:(fcI n s).length=n:=by simp[fcI]
theorem ZF7 {n i:Nat}{s:Nat→Bool}:(fcB n s)[i]? =if i<n then some (.lit (.bool (s i)))else none:=by
  unfold fcB
  rw[List.getElem?_map]
  split
  · next h=>rw[List.getElem?_range h];rfl
  · next h=>rw[List.getElem?_eq_none (by simp;omega)];rfl
theorem ZF4 {n i:Nat}{s:Nat→Int}:(fcI n s)[i]? =if i<n then some (.lit (.int .i64 (s i)))else none:=by
  unfold fcI
  rw[List.getElem?_map]
  split
  · next h=>rw[List.getElem?_range h];rfl
  · next h=>rw[List.getElem?_eq_none (by simp;omega)];rfl
theorem ZLq {n i:Nat}{s:Nat→Bool}{v:Bool}(h:i<n):(fcB n s).take i++ .lit (.bool v)::(fcB n s).drop (i+1)=fcB n (ZN1 s i v):=by
  have e:(fcB n s).take i++ .lit (.bool v)::(fcB n s).drop (i+1)=(fcB n s).set i (.lit (.bool v)):=by
    rw[List.set_eq_take_append_cons_drop,if_pos (by rw[ZF6];exact h)]
  rw[e]
  refine List.ext_getElem? fun k=> ?_
  rw[List.getElem?_set,ZF7,ZF7,ZF6]
  unfold ZN1
  by_cases e:i=k
  · subst e;simp[h]
  · rw[if_neg e,if_neg (Ne.symm e)]
theorem ZLo {n i:Nat}{s:Nat→Int}{v:Int}(h:i<n):(fcI n s).take i++ .lit (.int .i64 v)::(fcI n s).drop (i+1)=fcI n (ZN1 s i v):=by
  have e:(fcI n s).take i++ .lit (.int .i64 v)::(fcI n s).drop (i+1)=(fcI n s).set i (.lit (.int .i64 v)):=by
    rw[List.set_eq_take_append_cons_drop,if_pos (by rw[ZF3];exact h)]
  rw[e]
  refine List.ext_getElem? fun k=> ?_
  rw[List.getElem?_set,ZF4,ZF4,ZF3]
  unfold ZN1
  by_cases e:i=k
  · subst e;simp[h]
  · rw[if_neg e,if_neg (Ne.symm e)]
theorem fc_pures {α:Type}{f:α→AV}(h:∀x,(f x).pure):∀l:List α,AV.pure.pures (l.map f)
  | []=>by simp[AV.pure.pures]
  |a::r=>by simp only[List.map_cons,AV.pure.pures];exact⟨h a,fc_pures h r⟩
theorem fc_closeds {α:Type}{n:Nat}{f:α→AV}(h:∀x,(f x).closed n):∀l:List α,AV.closed.closeds n (l.map f)
  | []=>by simp[AV.closed.closeds]
  |a::r=>by simp only[List.map_cons,AV.closed.closeds];exact⟨h a,fc_closeds h r⟩
theorem ZI1 {n:Nat}{s:Nat→Bool}:AV.pure.pures (fcB n s)↔True:=iff_true_intro (fc_pures (fun _=>by simp[AV.pure]) _)
theorem ZI0 {n:Nat}{s:Nat→Int}:AV.pure.pures (fcI n s)↔True:=iff_true_intro (fc_pures (fun _=>by simp[AV.pure]) _)
theorem ZF8 {m n:Nat}{s:Nat→Bool}:AV.closed.closeds m (fcB n s)↔True:=iff_true_intro (fc_closeds (fun _=>by simp[AV.closed]) _)
theorem ZF5 {m n:Nat}{s:Nat→Int}:AV.closed.closeds m (fcI n s)↔True:=iff_true_intro (fc_closeds (fun _=>by simp[AV.closed]) _)
theorem ZLr {n:Nat}{s:Nat→Bool}:AV.le.les (fcB n s) (fcB n s)↔True:=iff_true_intro (AV.les_refl _)
theorem ZLp {n:Nat}{s:Nat→Int}:AV.le.les (fcI n s) (fcI n s)↔True:=iff_true_intro (AV.les_refl _)
theorem ZNd {n i:Nat}{s:Nat→Bool}(h:i<(fcB n s).length):(fcB n s)[i]=.lit (.bool (s i)):=by simp[fcB]
theorem ZNc {n i:Nat}{s:Nat→Int}(h:i<(fcI n s).length):(fcI n s)[i]=.lit (.int .i64 (s i)):=by simp[fcI]
theorem ZOj {n:Nat}{b:Bool}:fcB n (fun _=>b)=List.replicate n (.lit (.bool b)):=by
  refine List.ext_getElem? fun i=> ?_
  unfold fcB;rw[List.getElem?_map,List.getElem?_replicate]
  by_cases h:i<n
  · rw[if_pos h,List.getElem?_range h];rfl
  · rw[if_neg h,List.getElem?_eq_none (by simp;omega)];rfl
theorem ZOi {n:Nat}{b:Int}:fcI n (fun _=>b)=List.replicate n (.lit (.int .i64 b)):=by
  refine List.ext_getElem? fun i=> ?_
  unfold fcI;rw[List.getElem?_map,List.getElem?_replicate]
  by_cases h:i<n
  · rw[if_pos h,List.getElem?_range h];rfl
  · rw[if_neg h,List.getElem?_eq_none (by simp;omega)];rfl
theorem ZOJ {a:AV}:List.replicate 4 a=[a,a,a,a]:=rfl
theorem ZOI {a:AV}:List.replicate 6 a=[a,a,a,a,a,a]:=rfl
theorem ZOH {a:AV}:List.replicate 8 a=[a,a,a,a,a,a,a,a]:=rfl
attribute [simp] ZNd ZNc ZOj ZOi ZOJ ZOI ZOH ZLq ZLo
attribute [simp] ZF6 ZF3 ZF7 ZF4 ZI1 ZI0 ZF8 ZF5 ZLr ZLp
end Go.Vl
