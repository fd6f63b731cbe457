/- Part. -/
import Derived.Test.YtodkbabdaoeooaaGreatDoorStepsPrefixB
set_option linter.all false
set_option maxRecDepth 100000
open List renaming mem_of_mem_take->zA,drop_zero->zB,take_left->zC
namespace Go.Vl
open Go Go.RowKit
open Go.IntKind (i64)
theorem P.FnStepsPrefix (code:List Int)(hc:ZD5 code):F.f213 code=some true:=by
  unfold F.f213
  split
  · rfl
  obtain⟨w,t,l,T,e0,hw,_,hT,ht,hl,hp⟩:=P.YS code hc
  have hsw:=ZDA hw
  have hp':∀c,c∈l->c.pat.wt<=1048576:=fun c h=>by have:=hp c h;omega
  unfold F.f98
  rw[e0]
  simp only[oE,oS]
  obtain⟨r,b,e1,e2,h3⟩:=P.Yg w hsw t l hp' (fun h c hc=>(h.2.2 c hc).1)
  obtain⟨r',b',e2',hf,_⟩:=P.YAD w hsw t l hp' (fun h c hc=>(h.2.2 c hc).1)
  rw[e2]at e2'
  obtain⟨rfl,rfl⟩:=Prod.mk.inj (Option.some.inj e2')
  rw[e1,e2]
  simp only[oS]
  rw[iP True.intro]
  have fine:(∀s,s∈r->s.Ok)/\wtL Step.wt r<=10000000:=by
    cases b with
    |false=>rw[hf rfl];exact⟨fun s hs=>(by cases hs),by simp⟩
    |true=>
      obtain⟨hcs,ha,er⟩:=h3 rfl
      rw[er];exact ZLP hcs (fun c h=>(hcs.2.2 c h).1) ha
  rw[P.Ym fine.1 fine.2,P.YAZ fine.1 fine.2]
  simp only[oS]
  rw[iP True.intro]
  by_cases hb:b=true
  · obtain⟨hcs,ha,er⟩:=h3 hb
    rw[iP hb]
    by_cases hl0:l.length=0
    · rw[iP hl0];simp
    rw[iN hl0]
    have hw1:i64.wrap ((l.length:Int) -1)=((l.length-1:Nat):Int):=by rw[ZD (by omega) (by omega)];omega
    rw[hw1,iP (by omega),zB,Nat.sub_zero,Int.toNat_natCast]
    have hcs2:ZLO w t (l.take (l.length-1)):=⟨hcs.1,by have:=hcs.2.1;simp;omega,fun c h=>hcs.2.2 c (zA h)⟩
    obtain⟨r2,b2,g1,g2,g3⟩:=P.Yg w hsw t (l.take (l.length-1)) (fun c h=>hp' c (zA h)) (fun h c hc=>(h.2.2 c hc).1)
    have hb2:b2=true:=P.YAK hsw (fun c h=>hp' c (zA h)) hcs2 (fun c h=>(hcs2.2.2 c h).1) (fun c h=>ha c (zA h)) g2
    obtain⟨_,ha2,er2⟩:=g3 hb2
    rw[g1]
    simp only[oS]
    rw[iP hb2]
    -- the last clause
    obtain⟨x,hx⟩:∃x,l=l.take (l.length-1)++[x]:=⟨l[l.length-1]'(by omega),by
      conv=>lhs;rw[←List.take_append_drop (l.length-1) l]
      rw[List.drop_eq_getElem_cons (by omega),List.drop_eq_nil_of_le (by omega)]⟩
    have ec:ZAv 0 [] (l.map fun c=>c.pat.splits)=clS (0+((l.take (l.length-1)).map fun c=>c.pat.splits).length) (ZAv 0 [] ((l.take (l.length-1)).map fun c=>c.pat.splits)) x.pat.splits:=by
      conv=>lhs;rw[hx]
      rw[List.map_append,List.map_cons,List.map_nil,ZEz]
    generalize hA:ZAv 0 [] ((l.take (l.length-1)).map fun c=>c.pat.splits)=A at ec er2
    obtain⟨Z,hZ⟩:∃Z,r=A++Z/\1<=Z.length:=⟨_,by rw[er,ec,clS,List.append_assoc],by simp⟩
    have h2l:r2.length=A.length+1:=by rw[er2];simp
    have hrl:r.length=A.length+Z.length:=by rw[hZ.1];simp
    have hln:=ZBB Step.wt r
    have hw2:i64.wrap ((r2.length:Int) -1)=(A.length:Int):=by rw[ZD (by omega) (by omega)];omega
    rw[iN (by omega),hw2,iP (by omega),zB,zB,Nat.sub_zero,Int.toNat_natCast]
    have t1:r2.take A.length=A:=by rw[er2,zC]
    have t2:r.take A.length=A:=by rw[hZ.1,zC]
    have fA:(∀s,s∈A->s.Ok)/\wtL Step.wt A<=10000000:=by
      refine⟨fun s hs=>fine.1 s (by rw[hZ.1];exact List.mem_append_left _ hs),?_⟩
      have:=fine.2
      rw[hZ.1,ZAx]at this
      omega
    rw[t1,t2,P.Ym fA.1 fA.2]
    simp only[oS]
    rw[iP (by omega)]
    simp
  · rw[iN hb]
    simp
end Go.Vl
