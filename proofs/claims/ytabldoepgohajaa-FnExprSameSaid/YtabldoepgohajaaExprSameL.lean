/- The plain law of FnExprSame. -/
import Derived.Test.YtabldoepgohajaaExprSameB
set_option linter.unusedSimpArgs false
set_option linter.unusedVariables false
namespace Go.Vl
open Go Go.RowKit
theorem P.DrawExprSame (code:List Int)(hc:bytesOk code):∃a b,F.f68 code=some (a,b):=by
  have key:∀r,rok 0 r→∃a b,((F.f59 r)>>=fun v18=>
    (F.f64 v18.2.2.2.2 v18.1 v18.2.1 v18.2.2.1 v18.2.2.2.1 (3:Int))>>=fun v20=>
    (F.f1 v20.2 (2:Int))>>=fun v22=>
    if v22.1=0 then
      (F.f64 v22.2 v18.1 v18.2.1 v18.2.2.1 v18.2.2.2.1 (3:Int))>>=fun v26=>
      some (v20.1,v26.1)
    else
      (F.f67 v22.2 v20.1)>>=fun v28=>
      (F.f67 v28.2 v28.1)>>=fun v30=>
      some (v20.1,v30.1))=some (a,b):=by
    intro r hr
    obtain⟨w,fs,vs,t,r1,T,e1,h1,hw,hT,hTo,ht,hd,hf,hfl,hvl⟩:=P.l12Scene hr (by omega)
    rw[e1];simp only[Option.bind_eq_bind,Option.bind_some]
    obtain⟨e,r2,e2,h2,hwt⟩:=P.l12Draw hTo hT hf hfl hvl 2 t _ r1 ht hd (by omega) h1 (by omega)
    have e2:F.f64 r1 w fs vs t 3=some (e,r2):=e2
    rw[e2];simp only[Option.bind_some]
    obtain⟨p,r3,e3,h3,_⟩:=P.pick h2 (by omega) 2
    rw[e3];simp only[Option.bind_some]
    split
    · obtain⟨e',r4,e4,h4,_⟩:=P.l12Draw hTo hT hf hfl hvl 2 t _ r3 ht hd (by omega) h3 (by omega)
      have e4:F.f64 r3 w fs vs t 3=some (e',r4):=e4
      rw[e4];exact⟨_,_,rfl⟩
    · obtain⟨m1,r4,e4,h4,_,m2,r5,e5,h5,_⟩:=P.l12Mutate h3 (by omega) e (by omega)
      rw[e4];simp only[Option.bind_some]
      rw[e5];exact⟨_,_,rfl⟩
  unfold F.f68
  split
  · rw[if_pos (by omega)];exact key _ (rok_cut hc)
  · exact key _ (rok_open hc (by omega))
theorem P.FnExprSame (code:List Int)(hc:bytesOk code):F.f74 code=some true:=by
  unfold F.f74
  split
  · rfl
  obtain⟨a,b,e⟩:=P.DrawExprSame code hc
  rw[e];simp only[Option.bind_eq_bind,Option.bind_some,(P.ExprSame a b).1,(P.ExprSame a b).2,(P.ExprSame b a).1,(P.ExprSame a a).1]
  rw[if_pos trivial,if_pos (dec_congr ⟨Eq.symm,Eq.symm⟩),dec_of trivial]
end Go.Vl
