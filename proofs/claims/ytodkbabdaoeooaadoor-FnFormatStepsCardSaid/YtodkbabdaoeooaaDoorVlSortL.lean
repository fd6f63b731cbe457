/- A part of the proof. -/
import Derived.Test.YtodkbabdaoeooaaDoorVlF
set_option linter.all false
namespace Go.Vl
open Go
/-! ### Lists -/
section
variable {α β : Type} {key : α -> Int}
def ZOw (key:α->Int)(a:α):List α->List α
 | []=>[a]
 |b::r=>if key a<key b then a::b::r else b::ZOw key a r
def ZBx (key:α->Int):List α->List α
 | []=>[]
 |a::r=>ZOw key a (ZBx key r)
theorem ZD6 (a:α):∀l,(ZOw key a l).Perm (a::l)
 | []=>.refl _
 |b::r=>by
  rw[ZOw]
  split
  ·exact .refl _
  ·exact((ZD6 a r).cons b).trans (.swap a b r)
theorem ZCh :∀l,(ZBx key l).Perm l
 | []=>.refl _
 |a::r=>(ZD6 a _).trans ((ZCh r).cons a)
theorem ZKT (l:List α):(ZBx key l).length=l.length:=(ZCh l).length_eq
theorem ZDc {l:List α}{x:α}:x∈ZBx key l↔x∈l:=(ZCh l).mem_iff
theorem ZLQ (a:α):∀l,l.Pairwise (fun x y=>key x<key y)->(∀b,b∈l->key a≠key b)->(ZOw key a l).Pairwise (fun x y=>key x<key y)
 | [],_,_=>by simp[ZOw]
 |b::r,h,hn=>by
  rw[ZOw]
  rw[List.pairwise_cons]at h
  split
  ·next hl=>
   rw[List.pairwise_cons]
   refine⟨fun c hc=> ?_,List.pairwise_cons.2 h⟩
   rcases List.mem_cons.1 hc with rfl|hc
   ·exact hl
   ·exact Int.lt_trans hl (h.1 c hc)
  ·next hl=>
   rw[List.pairwise_cons]
   refine⟨fun c hc=> ?_,ZLQ a r h.2 fun c hc=>hn c (List.mem_cons_of_mem _ hc)⟩
   rcases List.mem_cons.1 ((ZD6 a r).mem_iff.1 hc)with rfl|hc
   ·have:=hn b (List.mem_cons_self ..);omega
   ·exact h.1 c hc
theorem ZFJ :∀l:List α,(l.map key).Nodup->(ZBx key l).Pairwise (fun x y=>key x<key y)
 | [],_=>.nil
 |a::r,h=>by
  rw[List.map_cons,List.nodup_cons]at h
  refine ZLQ a _ (ZFJ r h.2) fun b hb e=>h.1 ?_
  rw[e]
  exact List.mem_map_of_mem (ZDc.1 hb)
theorem ZLD :∀l l':List α,l.Perm l'->l.Pairwise (fun x y=>key x<key y)->l'.Pairwise (fun x y=>key x<key y)->l=l'
 | [],l',h,_,_=>(List.nil_perm.1 h).symm
 |a::r,[],h,_,_=>by simpa using h.length_eq
 |a::r,b::r',h,h1,h2=>by
  rw[List.pairwise_cons]at h1 h2
  have e:a=b:=by
   rcases List.mem_cons.1 (h.mem_iff.1 (List.mem_cons_self ..))with e|ha
   ·exact e
   ·rcases List.mem_cons.1 (h.mem_iff.2 (List.mem_cons_self ..))with e|hb
    ·exact e.symm
    ·have q1:=h2.1 a ha
     have q2:=h1.1 b hb
     omega
  subst e
  rw[ZLD r r' h.cons_inv h1.2 h2.2]
end
end Go.Vl
