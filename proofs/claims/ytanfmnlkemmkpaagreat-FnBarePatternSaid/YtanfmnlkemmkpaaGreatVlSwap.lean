/- A part of the proof. -/
import Derived.Test.YtanfmnlkemmkpaaGreatVlOwn
set_option linter.all false
namespace Go.Vl
open Go Go.RowKit
variable {P : Program} {B nb N : Nat}
def swp (l l2 i:Nat):Nat:=if i=l then l2 else if i=l2 then l else i
def rnF (π:Nat->Nat):Frm->Frm
 | []=>[]
 |(k,x)::r=>(k,x.ren π)::rnF π r
def swS (l l2:Nat)(σ:ZA):ZA:=((σ.set l (σ.getD l2 .dead)).set l2 (σ.getD l .dead)).map (Blk.ren (swp l l2))
def GhK (B nb N:Nat)(K:ASt->Prop)(st:ASt):Prop:=∃st',Gh B nb N st st'/\K st'
theorem Gh.frzElem {fr:Frm}{σ:ZA}(l i j:Nat){l2 n sz sz2:Nat}{es es2:List (List AV)}{e:List AV}(hl:σ[l]? =some (.elems sz es))(hi:es[i]? =some e)(hj:e[j]? =some (.own l2 n))(hl2:σ[l2]? =some (.elems sz2 es2))(hne:l≠l2)(hn:es2.length=n)(hp:Zr es2):
  Gh B nb N ⟨fr,σ⟩ ⟨fr,(σ.set l2 .dead).set l (.elems sz (es.set i (e.set j (.arr es2))))⟩:=by
 intro m0 w0 m a w h
 have hfr:Fr m w (m.kill l2) w:=Fr.kill m w l2
 have hs:=h.sim.kill hl2
 have hl':(σ.set l2 .dead)[l]? =some (.elems sz es):=by rw[List.getElem?_set_ne (Ne.symm hne)];exact hl
 have hil:i<es.length:=(List.getElem?_eq_some_iff.1 hi).1
 refine⟨m.kill l2,⟨by simpa using hs.n,fun k=> ?_,hs.inj,hs.sep,hs.avlt⟩,⟨h.fr.1,fun i=>(h.fr.2 i).mono hfr⟩,h.df,h.step.trans hfr h.ok,h.base,h.ok⟩
 by_cases e':k=l
 ·subst e'
  have hb:=hs.blk k
  rw[hl']at hb
  rw[List.getElem?_set_self (by have:=(List.getElem?_eq_some_iff.1 hl').1;exact this)]
  obtain⟨h1,h2,h3⟩:=hb
  refine⟨fun x hx=> ?_,by simpa using h2,?_⟩
  ·rcases List.mem_or_eq_of_mem_set hx with hx|rfl
   ·exact h1 x hx
   ·simpa using h1 e (List.mem_of_getElem? hi)
  ·rcases h3 with⟨_,rfl⟩|⟨b,ccs,ty,g1,g2,g3,g4⟩
   ·simp at hil
   refine .inr ⟨b,ccs,ty,by simpa using g1,g2,by simpa using g3,fun i' e0 k' x hi' hk=> ?_⟩
   by_cases ei:i=i'
   ·subst ei
    rw[List.getElem?_set_self hil]at hi'
    obtain rfl:=Option.some.inj hi'
    by_cases ej:j=k'
    ·subst ej
     rw[List.getElem?_set_self (List.getElem?_eq_some_iff.1 hj).1]at hk
     obtain rfl:=Option.some.inj hk
     have hb0:=h.sim.blk k
     rw[hl]at hb0
     obtain⟨_,_,h30⟩:=hb0
     rcases h30 with⟨_,rfl⟩|⟨b0,ccs0,ty0,q1,q2,q3,q4⟩
     ·simp at hil
     obtain⟨y,hy,hc⟩:=q4 i e j _ hi hj
     have e1:(m.kill l2).f k=m.f k:=by simp[Map.kill,hne]
     rw[e1,q1]at g1;cases g1
     rw[q2]at g2;cases g2
     exact⟨y,hy,ZAn h.sim hl2 hn hp hc⟩
    ·rw[List.getElem?_set_ne ej]at hk
     exact g4 i e k' x hi hk
   ·rw[List.getElem?_set_ne ei]at hi'
    exact g4 i' e0 k' x hi' hk
 ·rw[List.getElem?_set_ne (Ne.symm e')]
  exact hs.blk k
attribute [simp] rnF swp swS
end Go.Vl
