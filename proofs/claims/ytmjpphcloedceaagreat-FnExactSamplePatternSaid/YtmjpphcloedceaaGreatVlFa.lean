/- Part. -/
import Derived.Test.YtmjpphcloedceaaGreatVlQ
set_option linter.all false
open List renaming replicate->zA,getElem?_eq_none->zB,getElem?_range->zC,getElem?_map->zD,ext_getElem?->zE,set_eq_take_append_cons_drop->zF,getElem?_replicate->zG,getElem?_set->zH,map_cons->zI,range->zJ
namespace Go.Vl
open Go Go.RowKit
open AV renaming closed->zK,pure->zL,les_refl->zM
def updF {α:Type}(s:Nat->α)(i:Nat)(v:α):Nat->α:=fun k=>if k=i then v else s k
def fcB (n:Nat)(s:Nat->Bool):List AV:=(zJ n).map fun k=>.lit (.bool (s k))
def fcI (n:Nat)(s:Nat->Int):List AV:=(zJ n).map fun k=>.lit (.int .i64 (s k))
variable {n:Nat}{s:Nat->Bool}
theorem ZGj :(fcB n s).length=n:=by simp[fcB]
theorem ZGg {s:Nat->Int}:(fcI n s).length=n:=by simp[fcI]
variable {i:Nat}
theorem ZGk :(fcB n s)[i]? =if i<n then some (.lit (.bool (s i)))else none:=by
 unfold fcB
 rw[zD]
 split
 ·next h=>rw[zC h];rfl
 ·next h=>rw[zB (by simp;omega)];rfl
theorem ZGh {s:Nat->Int}:(fcI n s)[i]? =if i<n then some (.lit (.int .i64 (s i)))else none:=by
 unfold fcI
 rw[zD]
 split
 ·next h=>rw[zC h];rfl
 ·next h=>rw[zB (by simp;omega)];rfl
theorem ZMj {v:Bool}(h:i<n):(fcB n s).take i++ .lit (.bool v)::(fcB n s).drop (i+1)=fcB n (updF s i v):=by
 have e:(fcB n s).take i++ .lit (.bool v)::(fcB n s).drop (i+1)=(fcB n s).set i (.lit (.bool v)):=by
  rw[zF,iP (by rw[ZGj];exact h)]
 rw[e]
 refine zE fun k=> ?_
 rw[zH,ZGk,ZGk,ZGj]
 unfold updF
 by_cases e:i=k
 ·subst e;simp[h]
 ·rw[iN e,iN (Ne.symm e)]
theorem ZMh {s:Nat->Int}{v:Int}(h:i<n):(fcI n s).take i++ .lit (.int .i64 v)::(fcI n s).drop (i+1)=fcI n (updF s i v):=by
 have e:(fcI n s).take i++ .lit (.int .i64 v)::(fcI n s).drop (i+1)=(fcI n s).set i (.lit (.int .i64 v)):=by
  rw[zF,iP (by rw[ZGg];exact h)]
 rw[e]
 refine zE fun k=> ?_
 rw[zH,ZGh,ZGh,ZGg]
 unfold updF
 by_cases e:i=k
 ·subst e;simp[h]
 ·rw[iN e,iN (Ne.symm e)]
theorem fc_pures {α:Type}{f:α->AV}(h:∀x,(f x).pure):∀l:List α,zL.pures (l.map f)
 | []=>by simp[zL.pures]
 |a::r=>by simp only[zI,zL.pures];exact⟨h a,fc_pures h r⟩
theorem fc_closeds {α:Type}{n:Nat}{f:α->AV}(h:∀x,(f x).closed n):∀l:List α,zK.closeds n (l.map f)
 | []=>by simp[zK.closeds]
 |a::r=>by simp only[zI,zK.closeds];exact⟨h a,fc_closeds h r⟩
theorem ZJk :zL.pures (fcB n s)↔True:=iff_true_intro (fc_pures (fun _=>by simp[zL]) _)
theorem ZJj {s:Nat->Int}:zL.pures (fcI n s)↔True:=iff_true_intro (fc_pures (fun _=>by simp[zL]) _)
theorem ZGl {m:Nat}:zK.closeds m (fcB n s)↔True:=iff_true_intro (fc_closeds (fun _=>by simp[zK]) _)
theorem ZGi {m:Nat}{s:Nat->Int}:zK.closeds m (fcI n s)↔True:=iff_true_intro (fc_closeds (fun _=>by simp[zK]) _)
theorem ZMk :AV.le.les (fcB n s) (fcB n s)↔True:=iff_true_intro (zM _)
theorem ZMi {s:Nat->Int}:AV.le.les (fcI n s) (fcI n s)↔True:=iff_true_intro (zM _)
theorem ZOU (h:i<(fcB n s).length):(fcB n s)[i]=.lit (.bool (s i)):=by simp[fcB]
theorem ZOT {s:Nat->Int}(h:i<(fcI n s).length):(fcI n s)[i]=.lit (.int .i64 (s i)):=by simp[fcI]
theorem ZPd {b:Bool}:fcB n (fun _=>b)=zA n (.lit (.bool b)):=by
 refine zE fun i=> ?_
 unfold fcB;rw[zD,zG]
 by_cases h:i<n
 ·rw[iP h,zC h];rfl
 ·rw[iN h,zB (by simp;omega)];rfl
theorem ZPc {b:Int}:fcI n (fun _=>b)=zA n (.lit (.int .i64 b)):=by
 refine zE fun i=> ?_
 unfold fcI;rw[zD,zG]
 by_cases h:i<n
 ·rw[iP h,zC h];rfl
 ·rw[iN h,zB (by simp;omega)];rfl
variable {a:AV}
theorem ZNP :zA 16 a=[a,a,a,a,a,a,a,a,a,a,a,a,a,a,a,a]:=rfl
theorem ZPD :zA 4 a=[a,a,a,a]:=rfl
theorem ZPC :zA 6 a=[a,a,a,a,a,a]:=rfl
theorem ZPB :zA 8 a=[a,a,a,a,a,a,a,a]:=rfl
attribute [simp] ZNP ZOU ZOT ZPd ZPc ZPD ZPC ZPB ZMj ZMh
attribute [simp] ZGj ZGg ZGk ZGh ZJk ZJj ZGl ZGi ZMk ZMi
end Go.Vl
