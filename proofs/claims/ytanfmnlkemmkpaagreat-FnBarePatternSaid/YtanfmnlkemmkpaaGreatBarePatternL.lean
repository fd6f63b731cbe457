/- A part of the proof. -/
import Derived.Test.YtanfmnlkemmkpaaGreatBarePatternB
set_option linter.all false
set_option maxRecDepth 100000
namespace Go.Vl
open Go Go.RowKit
theorem P.FnBarePattern (code more:List Int)(hc:ZCj code)(hm:ZCj more):F.f164 code more=some true:=by
  unfold F.f164
  split
  · rfl
  split
  · rfl
  obtain⟨w,t,p,v,e,hw,hp,hv⟩:=P.YY code hc
  obtain⟨q,e2,hq⟩:=P.Ye more hm
  obtain⟨a1,a2⟩:=P.YC p hp
  obtain⟨b1,b2⟩:=P.YC q hq
  rw[e]
  simp only[oE,oS]
  rw[a2,e2]
  simp only[oS]
  rw[b1,b2]
  simp only[oS]
  rw[P.YB]
  simp only[oS]
  rw[if_pos True.intro,P.YA w hw t p hp]
  simp only[oS]
  by_cases h:ZA6 w t/\ZCB w t p
  · rw[if_pos (ZI h)]
    obtain⟨h1,h2⟩:=h
    have h60:=h2.2.2
    have hbw:=Pattern.bare_wt p
    obtain⟨s1,s2,s3⟩:=ZKD h2.1
    have hb:ZCB w t p.bare:=⟨s1,(ZHL s1 s2).2,by omega⟩
    rw[P.YI w hw t p v h1 h2 hv,P.YI w hw t p.bare v h1 hb hv]
    simp only[oS]
    have same : (if dec (pv w false 10 t v /\ 1 + v.wt <= 60) = true then mtR 10 p v else ([], false)).2 = (if dec (pv w false 10 t v /\ 1 + v.wt <= 60) = true then mtR 10 p.bare v else ([], false)).2 /\
        (if dec (pv w false 10 t v/\1+v.wt<=60)=true then mtR 10 p.bare v else([],false)).1.length=0:=by
      split
      · unfold mtR
        rw[s3 v]
        cases mt 10 p v with
        |none=>exact⟨rfl,rfl⟩
        |some l=>exact⟨rfl,by rfl⟩
      · exact⟨rfl,rfl⟩
    rw[if_pos same.1,if_pos same.2,P.YA w hw t p.bare (by omega),ZI ⟨h1,hb⟩]
    simp only[oS]
    rw[if_pos True.intro,(P.YC p.bare (by omega)).2,Pattern.bare_bare]
    simp only[oS]
    rw[P.YB]
    rfl
  · rw[if_neg (by rw[ZF h];simp),a1]
    simp only[oS]
    rw[P.YB]
    rfl
end Go.Vl
