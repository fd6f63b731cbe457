/- A part of the proof. -/
import Derived.Test.YtodkbabdaoeooaaDoorFormatStepsB
set_option linter.all false
set_option maxRecDepth 100000
namespace Go.Vl
open Go Go.RowKit
theorem P.FnFormatSteps (code:List Int)(hc:ZEJ code):F.f144 code=some true:=by
  unfold F.f144
  split
  · rfl
  obtain⟨w,t,l,T,e0,hw,_,hT,ht,hl,hp⟩:=P.YM code hc
  have hsw:=ZC9 hw
  have hp':∀c,c∈l->c.pat.wt<=1048576:=fun c h=>by have:=hp c h;omega
  unfold F.f129 F.f98
  rw[e0]
  simp only[oE,oS]
  obtain⟨r,b,e2,hf,h3⟩:=P.Ym w hsw t l hp' (fun h c hc=>(h.2.2 c hc).1)
  rw[e2]
  simp only[oS]
  have fine:(∀s,s∈r->s.Ok)/\wtL Step.wt r<=10000000:=by
    cases b with
    |false=>rw[hf rfl];exact⟨fun s hs=>(by cases hs),by simp⟩
    |true=>
      obtain⟨hcs,ha,er⟩:=h3 rfl
      rw[er];exact ZLh hcs (fun c h=>(hcs.2.2 c h).1) ha
  have hsz:=ZDz fine.1
  have e:(ZCE r).size=(r.map fun x=>(ZDM x).size).sum:=by unfold ZCE;rw[ZAi,List.map_map];rfl
  rw[P.YAA fine.1 fine.2,P.Yv fine.1 fine.2]
  simp only[oS]
  rw[ZFo (b:=ZCE r) (by omega) (L:=F.f143 r (ZCE r)) (fun n i=>by rw[F.f143]) _ 0 0 rfl (Nat.le_refl _) (Nat.zero_le _)]
  simp only[oS,List.drop_zero]
  have hn:(ZCE r).data.toList.count 10=r.length:=ZJ0 r
  rw[hn]
  simp
end Go.Vl
