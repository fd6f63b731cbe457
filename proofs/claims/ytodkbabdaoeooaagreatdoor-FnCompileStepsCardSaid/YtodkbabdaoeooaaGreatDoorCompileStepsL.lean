/- Part. -/
import Derived.Test.YtodkbabdaoeooaaGreatDoorCompileStepsB
set_option linter.all false
set_option maxRecDepth 100000
namespace Go.Vl
open Go Go.RowKit
open Go.IntKind (i64)
theorem P.FnCompileSteps (code:List Int)(hc:ZD7 code):F.f214 code=some true:=by
  unfold F.f214
  split
  · rfl
  obtain⟨w,t,l,T,e0,hw,_,hT,ht,hl,hp⟩:=P.YR code hc
  have hsw:=ZDB hw
  have hp':∀c,c∈l->c.pat.wt<=1048576:=fun c h=>by have:=hp c h;omega
  unfold F.f98
  rw[e0]
  simp only[oE,oS]
  obtain⟨r,b,e1,e2,h3⟩:=P.YAT w hsw t l hp' (fun h c hc=>(h.2.2 c hc).1)
  obtain⟨r',b',e2',hf,_⟩:=P.YAB w hsw t l hp' (fun h c hc=>(h.2.2 c hc).1)
  rw[e2]at e2'
  obtain⟨rfl,rfl⟩:=Prod.mk.inj (Option.some.inj e2')
  rw[e1,e2]
  simp only[oS]
  rw[iP True.intro,iP True.intro]
  have fine:(∀s,s∈r->s.Ok)/\wtL Step.wt r<=10000000:=by
    cases b with
    |false=>rw[hf rfl];exact⟨fun s hs=>(by cases hs),by simp⟩
    |true=>
      obtain⟨hcs,ha,er⟩:=h3 rfl
      rw[er];exact ZLP hcs (fun c h=>(hcs.2.2 c h).1) ha
  rw[P.YAd fine.1 fine.2,P.YAX fine.1 fine.2]
  simp only[oS]
  rw[iP True.intro]
  by_cases hb:b=true
  · obtain⟨hcs,ha,er⟩:=h3 hb
    rw[iP hb]
    have hfw:ZOs (ZAn 0 [] (l.map fun c=>c.pat.splits)):=ZGs _ 0 [] fun k h=>by simp at h
    have hln:=ZA9 Step.wt r
    have hrl:r.length=(ZAn 0 [] (l.map fun c=>c.pat.splits)).length+1:=by rw[er];simp
    have hw1:i64.wrap ((r.length:Int) -1)=((ZAn 0 [] (l.map fun c=>c.pat.splits)).length:Int):=by rw[ZD (by omega) (by omega)];omega
    have key:∀(m i:Nat),(ZAn 0 [] (l.map fun c=>c.pat.splits)).length-i=m->F.f213 (r,b) i=some (.go ()):=by
      intro m
      induction m with
      |zero=>
        intro i hm
        rw[F.f213]
        show(if(i:Int)<i64.wrap ((r.length:Int) -1)then _ else _)=_
        rw[hw1,iN (by omega)]
      |succ m ih=>
        intro i hm
        have hi:i<(ZAn 0 [] (l.map fun c=>c.pat.splits)).length:=by omega
        have hir:i<r.length:=by omega
        obtain⟨a1,a2,a3⟩:=hfw i hi
        have ex:r[i]=(ZAn 0 [] (l.map fun c=>c.pat.splits))[i]:=by
          simp only[er]
          rw[List.getElem_append_left hi]
        rw[F.f213]
        show(if(i:Int)<i64.wrap ((r.length:Int) -1)then(r[i]?)>>=_ else _)=_
        rw[hw1,iP (by omega),gQ hir,ex]
        simp only[oE,oS]
        rw[iN (by omega),iN (by omega),iN (by rw[hrl];omega),iP (by omega)]
        exact ih (i+1) (by omega)
    rw[key _ 0 rfl]
    simp only[oS]
    rw[iP (by omega),hw1,ZDO (by omega)]
    have ex:r[(ZAn 0 [] (l.map fun c=>c.pat.splits)).length]'(by omega)=ZGj:=by
      simp only[er]
      rw[List.getElem_append_right (Nat.le_refl _)]
      simp
    rw[ex]
    rfl
  · rw[iN hb]
    simp
end Go.Vl
