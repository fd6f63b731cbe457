/- Part. -/
import Derived.Test.YtnockmfobogfpaaGreatVlF
set_option linter.all false
open List renaming pairwise_cons->zA,map_eq_cons_iff->zB,mem_cons->zC,mem_cons_self->zD,map_cons->zE
namespace Go.Vl
open Go
/-! ### Lists -/
section
variable {α β : Type} {key : α -> Int}
def ZOl (key:α->Int)(a:α):List α->List α
 | []=>[a]
 |b::r=>if key a<key b then a::b::r else b::ZOl key a r
def sortI (key:α->Int):List α->List α
 | []=>[]
 |a::r=>ZOl key a (sortI key r)
theorem ZDx (a:α):∀l,(ZOl key a l).Perm (a::l)
 | []=>.refl _
 |b::r=>by
  rw[ZOl]
  split
  ·exact .refl _
  ·exact((ZDx a r).cons b).trans (.swap a b r)
theorem ZBi :∀l,(sortI key l).Perm l
 | []=>.refl _
 |a::r=>(ZDx a _).trans ((ZBi r).cons a)
theorem ZCL (l:List α):(sortI key l).length=l.length:=(ZBi l).length_eq
theorem ZCK {l:List α}{x:α}:x∈sortI key l↔x∈l:=(ZBi l).mem_iff
theorem ZK9 (a:α):∀l,l.Pairwise (fun x y=>key x<key y)->(∀b,b∈l->key a≠key b)->(ZOl key a l).Pairwise (fun x y=>key x<key y)
 | [],_,_=>by simp[ZOl]
 |b::r,h,hn=>by
  rw[ZOl]
  rw[zA]at h
  split
  ·next hl=>
   rw[zA]
   refine⟨fun c hc=> ?_,zA.2 h⟩
   rcases zC.1 hc with rfl|hc
   ·exact hl
   ·exact Int.lt_trans hl (h.1 c hc)
  ·next hl=>
   rw[zA]
   refine⟨fun c hc=> ?_,ZK9 a r h.2 fun c hc=>hn c (List.mem_cons_of_mem _ hc)⟩
   rcases zC.1 ((ZDx a r).mem_iff.1 hc)with rfl|hc
   ·have:=hn b (zD ..);omega
   ·exact h.1 c hc
theorem ZDT :∀l:List α,(l.map key).Nodup->(sortI key l).Pairwise (fun x y=>key x<key y)
 | [],_=>.nil
 |a::r,h=>by
  rw[zE,List.nodup_cons]at h
  refine ZK9 a _ (ZDT r h.2) fun b hb e=>h.1 ?_
  rw[e]
  exact List.mem_map_of_mem (ZCK.1 hb)
theorem ZHd :∀l l':List α,l.Perm l'->l.Pairwise (fun x y=>key x<key y)->l'.Pairwise (fun x y=>key x<key y)->l=l'
 | [],l',h,_,_=>(List.nil_perm.1 h).symm
 |a::r,[],h,_,_=>by simpa using h.length_eq
 |a::r,b::r',h,h1,h2=>by
  rw[zA]at h1 h2
  have e:a=b:=by
   rcases zC.1 (h.mem_iff.1 (zD ..))with e|ha
   ·exact e
   ·rcases zC.1 (h.mem_iff.2 (zD ..))with e|hb
    ·exact e.symm
    ·have q1:=h2.1 a ha
     have q2:=h1.1 b hb
     omega
  subst e
  rw[ZHd r r' h.cons_inv h1.2 h2.2]
theorem ZL3 {p:Prop}[Decidable p]{x r:List α}(h:(if p then some (sortI key x)else none)=some r):x.length=r.length:=by
 split at h
 ·cases h;rw[ZCL]
 ·cases h
theorem ZKm {f:α->β}:∀{m l:List β},m.Perm l->∀z:List α,z.map f=m->∃z':List α,z'.Perm z/\z'.map f=l:=by
 intro m l h
 induction h with
 |nil=>intro z hz;exact⟨z,.refl _,hz⟩
 |cons x _ ih=>
  intro z hz
  obtain⟨a,r,rfl,rfl,h2⟩:=zB.1 hz
  obtain⟨z',q1,q2⟩:=ih r h2
  exact⟨a::z',q1.cons a,by rw[zE,q2]⟩
 |swap x y l=>
  intro z hz
  obtain⟨a,r,rfl,rfl,h2⟩:=zB.1 hz
  obtain⟨b,r2,rfl,rfl,rfl⟩:=zB.1 h2
  exact⟨b::a::r2,.swap a b r2,rfl⟩
 |trans _ _ ih1 ih2=>
  intro z hz
  obtain⟨z1,q1,q2⟩:=ih1 z hz
  obtain⟨z2,q3,q4⟩:=ih2 z1 q2
  exact⟨z2,q3.trans q1,q4⟩
end
end Go.Vl
