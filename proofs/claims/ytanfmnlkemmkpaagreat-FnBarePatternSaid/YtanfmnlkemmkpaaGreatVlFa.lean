/- A part of the proof. -/
import Derived.Test.YtanfmnlkemmkpaaGreatVlQ
set_option linter.all false
namespace Go.Vl
open Go Go.RowKit
def ZHo {α:Type}(s:Nat->α)(i:Nat)(v:α):Nat->α:=fun k=>if k=i then v else s k
def fcB (n:Nat)(s:Nat->Bool):List AV:=(List.range n).map fun k=>.lit (.bool (s k))
def fcI (n:Nat)(s:Nat->Int):List AV:=(List.range n).map fun k=>.lit (.int .i64 (s k))
theorem ZGZ {n:Nat}{s:Nat->Bool}:(fcB n s).length=n:=by simp[fcB]
theorem ZGa {n i:Nat}{s:Nat->Bool}:(fcB n s)[i]? =if i<n then some (.lit (.bool (s i)))else none:=by
 unfold fcB
 rw[List.getElem?_map]
 split
 ·next h=>rw[List.getElem?_range h];rfl
 ·next h=>rw[List.getElem?_eq_none (by simp;omega)];rfl
theorem ZNM {n i:Nat}{s:Nat->Bool}{v:Bool}(h:i<n):(fcB n s).take i++ .lit (.bool v)::(fcB n s).drop (i+1)=fcB n (ZHo s i v):=by
 have e:(fcB n s).take i++ .lit (.bool v)::(fcB n s).drop (i+1)=(fcB n s).set i (.lit (.bool v)):=by
  rw[List.set_eq_take_append_cons_drop,if_pos (by rw[ZGZ];exact h)]
 rw[e]
 refine List.ext_getElem? fun k=> ?_
 rw[List.getElem?_set,ZGa,ZGa,ZGZ]
 unfold ZHo
 by_cases e:i=k
 ·subst e;simp[h]
 ·rw[if_neg e,if_neg (Ne.symm e)]
theorem ZLR {α:Type}{f:α->AV}(h:∀x,(f x).pure):∀l:List α,AV.pure.pures (l.map f)
 | []=>by simp[AV.pure.pures]
 |a::r=>by simp only[List.map_cons,AV.pure.pures];exact⟨h a,ZLR h r⟩
theorem fc_closeds {α:Type}{n:Nat}{f:α->AV}(h:∀x,(f x).closed n):∀l:List α,AV.closed.closeds n (l.map f)
 | []=>by simp[AV.closed.closeds]
 |a::r=>by simp only[List.map_cons,AV.closed.closeds];exact⟨h a,fc_closeds h r⟩
theorem ZGb {m n:Nat}{s:Nat->Bool}:AV.closed.closeds m (fcB n s)↔True:=iff_true_intro (fc_closeds (fun _=>by simp[AV.closed]) _)
theorem ZNN {n:Nat}{s:Nat->Bool}:AV.le.les (fcB n s) (fcB n s)↔True:=iff_true_intro (AV.les_refl _)
theorem ZOp {n i:Nat}{s:Nat->Bool}(h:i<(fcB n s).length):(fcB n s)[i]=.lit (.bool (s i)):=by simp[fcB]
theorem ZPn {n:Nat}{b:Bool}:fcB n (fun _=>b)=List.replicate n (.lit (.bool b)):=by
 refine List.ext_getElem? fun i=> ?_
 unfold fcB;rw[List.getElem?_map,List.getElem?_replicate]
 by_cases h:i<n
 ·rw[if_pos h,List.getElem?_range h];rfl
 ·rw[if_neg h,List.getElem?_eq_none (by simp;omega)];rfl
theorem ZPX {a:AV}:List.replicate 4 a=[a,a,a,a]:=rfl
theorem ZPW {a:AV}:List.replicate 6 a=[a,a,a,a,a,a]:=rfl
theorem ZPV {a:AV}:List.replicate 8 a=[a,a,a,a,a,a,a,a]:=rfl
attribute [simp] ZOp ZPn ZPX ZPW ZPV ZNM
attribute [simp] ZGZ ZGa ZGb ZNN
end Go.Vl
