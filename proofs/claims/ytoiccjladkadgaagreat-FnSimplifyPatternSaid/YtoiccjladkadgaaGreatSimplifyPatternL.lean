/- A part of the proof. -/
import Derived.Test.YtoiccjladkadgaaGreatSimplifyPatternB
set_option linter.all false
set_option maxRecDepth 100000
namespace Go.Vl
open Go Go.RowKit
open Go.IntKind (i64)
theorem P.FnSimplifyPattern (code more:List Int)(hc:ZDi code)(hm:ZDi more):F.f208 code more=some true:=by
  unfold F.f208
  split
  · rfl
  split
  · rfl
  obtain⟨w,t,p,e,hw,hp⟩:=P.Yb code hc
  obtain⟨q,b,e1,e2,hb⟩:=P.YY w hw t p hp
  rw[e]
  simp only[oE,oS]
  rw[e1,e2]
  simp only[oS]
  rw[if_pos True.intro,P.YS]
  simp only[oS]
  rw[if_pos True.intro]
  by_cases h:b=true
  · obtain⟨h1,h2,h3,h4,h5⟩:=hb h
    rw[if_pos h]
    have hd:∃d:Nat,d<=4/\i64.wrap (1+(more.length:Int).tmod 3)=(d:Int):=by
      have e3:(more.length:Int).tmod 3=((more.length%3:Nat):Int):=by rw[Int.tmod_eq_emod_of_nonneg (by omega)];omega
      have:=Nat.mod_lt more.length (show 0<3 by omega)
      exact⟨1+more.length%3,by omega,by rw[e3,ZF (by omega) (by omega)];omega⟩
    obtain⟨d,hd4,ed⟩:=hd
    obtain⟨vs,vb,e3,hvl,hvw⟩:=P.Ys w hw t d hd4
    rw[ed,e3]
    simp only[oS]
    have h60:=h3.2.2
    have key:∀m i,vs.length-i=m->F.f207 (w,t,p) (q,b) (vs,vb) i=some (.go ()):=by
      intro m
      induction m with
      |zero=>intro i hm;rw[F.f207,if_neg (by show ¬i<vs.length;omega)]
      |succ m ih=>
        intro i hm
        have hi:i<vs.length:=by omega
        have hwv:=hvw _ (gM hi)
        rw[F.f207,if_pos (show i<vs.length from hi)]
        simp only[gQ hi,oE,oS]
        have same:(if dec (pv w false 10 t vs[i]/\1+vs[i].wt<=60)=true then mtR 10 q vs[i]else([],false))=(if dec (pv w false 10 t vs[i]/\1+vs[i].wt<=60)=true then mtR 10 p vs[i]else([],false)):=by
          split
          · next hh=>unfold mtR;rw[h5 10 _ (Zs.1 hh).1]
          · rfl
        rw[P.YO w hw t p _ h1 h2 (by omega),P.YO w hw t q _ h1 h3 (by omega),same]
        simp only[oS]
        rw[if_pos True.intro,P.YAQ]
        simp only[oS]
        rw[if_pos True.intro]
        exact ih (i+1) (by omega)
    rw[key _ 0 rfl]
    simp only[oS]
    rw[h4,P.YD w hw t q (by omega),ZH ⟨h1,h3⟩]
    simp only[oS]
    rw[if_pos True.intro,if_pos True.intro,P.YS]
    rfl
  · rw[if_neg h]
end Go.Vl
