/- A part of the proof. -/
import Derived.Test.YtanfmnlkemmkpaaGreatVlF
set_option linter.all false
namespace Go.Vl
open Go
/-! ### Lists -/
section
variable {α β : Type} {key : α -> Int}
def ZM1 (key:α->Int)(a:α):List α->List α
 | []=>[a]
 |b::r=>if key a<key b then a::b::r else b::ZM1 key a r
def sortI (key:α->Int):List α->List α
 | []=>[]
 |a::r=>ZM1 key a (sortI key r)
theorem ZDY (a:α):∀l,(ZM1 key a l).Perm (a::l)
 | []=>.refl _
 |b::r=>by
  rw[ZM1]
  split
  ·exact .refl _
  ·exact((ZDY a r).cons b).trans (.swap a b r)
theorem ZBQ :∀l,(sortI key l).Perm l
 | []=>.refl _
 |a::r=>(ZDY a _).trans ((ZBQ r).cons a)
theorem ZDH (l:List α):(sortI key l).length=l.length:=(ZBQ l).length_eq
theorem ZE4 {l:List α}{x:α}:x∈sortI key l↔x∈l:=(ZBQ l).mem_iff
theorem ZJr (a:α):∀l,l.Pairwise (fun x y=>key x<key y)->(∀b,b∈l->key a≠key b)->(ZM1 key a l).Pairwise (fun x y=>key x<key y)
 | [],_,_=>by simp[ZM1]
 |b::r,h,hn=>by
  rw[ZM1]
  rw[List.pairwise_cons]at h
  split
  ·next hl=>
   rw[List.pairwise_cons]
   refine⟨fun c hc=> ?_,List.pairwise_cons.2 h⟩
   rcases List.mem_cons.1 hc with rfl|hc
   ·exact hl
   ·exact Int.lt_trans hl (h.1 c hc)
  ·next hl=>
   rw[List.pairwise_cons]
   refine⟨fun c hc=> ?_,ZJr a r h.2 fun c hc=>hn c (List.mem_cons_of_mem _ hc)⟩
   rcases List.mem_cons.1 ((ZDY a r).mem_iff.1 hc)with rfl|hc
   ·have:=hn b (List.mem_cons_self ..);omega
   ·exact h.1 c hc
theorem ZG9 :∀l:List α,(l.map key).Nodup->(sortI key l).Pairwise (fun x y=>key x<key y)
 | [],_=>.nil
 |a::r,h=>by
  rw[List.map_cons,List.nodup_cons]at h
  refine ZJr a _ (ZG9 r h.2) fun b hb e=>h.1 ?_
  rw[e]
  exact List.mem_map_of_mem (ZE4.1 hb)
theorem ZJh :∀l l':List α,l.Perm l'->l.Pairwise (fun x y=>key x<key y)->l'.Pairwise (fun x y=>key x<key y)->l=l'
 | [],l',h,_,_=>(List.nil_perm.1 h).symm
 |a::r,[],h,_,_=>by simpa using h.length_eq
 |a::r,b::r',h,h1,h2=>by
  rw[List.pairwise_cons]at h1 h2
  have e:a=b:=by
   rcases List.mem_cons.1 (h.mem_iff.1 (List.mem_cons_self ..))with e|ha
   ·exact e
   ·rcases List.mem_cons.1 (h.mem_iff.2 (List.mem_cons_self ..))with e|hb
    ·exact e.symm
    ·have q1:=h2.1 a ha
     have q2:=h1.1 b hb
     omega
  subst e
  rw[ZJh r r' h.cons_inv h1.2 h2.2]
theorem ZKf {p:Prop}[Decidable p]{x r:List α}(h:(if p then some (sortI key x)else none)=some r):x.length=r.length:=by
 split at h
 ·cases h;rw[ZDH]
 ·cases h
theorem ZJU {f:α->β}:∀{m l:List β},m.Perm l->∀z:List α,z.map f=m->∃z':List α,z'.Perm z/\z'.map f=l:=by
 intro m l h
 induction h with
 |nil=>intro z hz;exact⟨z,.refl _,hz⟩
 |cons x _ ih=>
  intro z hz
  obtain⟨a,r,rfl,rfl,h2⟩:=List.map_eq_cons_iff.1 hz
  obtain⟨z',q1,q2⟩:=ih r h2
  exact⟨a::z',q1.cons a,by rw[List.map_cons,q2]⟩
 |swap x y l=>
  intro z hz
  obtain⟨a,r,rfl,rfl,h2⟩:=List.map_eq_cons_iff.1 hz
  obtain⟨b,r2,rfl,rfl,rfl⟩:=List.map_eq_cons_iff.1 h2
  exact⟨b::a::r2,.swap a b r2,rfl⟩
 |trans _ _ ih1 ih2=>
  intro z hz
  obtain⟨z1,q1,q2⟩:=ih1 z hz
  obtain⟨z2,q3,q4⟩:=ih2 z1 q2
  exact⟨z2,q3.trans q1,q4⟩
end
end Go.Vl
