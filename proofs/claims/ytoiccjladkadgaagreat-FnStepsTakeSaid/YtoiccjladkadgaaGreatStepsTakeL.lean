/- A part of the proof. -/
import Derived.Test.YtoiccjladkadgaaGreatStepsTakeB
set_option linter.all false
set_option maxRecDepth 100000
namespace Go.Vl
open Go Go.RowKit
theorem P.FnStepsTake (code:List Int)(hc:ZDY code):F.f209 code=some true:=by
  unfold F.f209
  split
  · rfl
  obtain⟨w,t,l,T,e0,hw,_,hT,ht,hl,hp⟩:=P.YP code hc
  have hsw:=ZCl hw
  have hp':∀c,c∈l->c.pat.wt<=1048576:=fun c h=>by have:=hp c h;omega
  unfold F.f98
  rw[e0]
  simp only[oE,oS]
  obtain⟨r,b,e1,e2,h3⟩:=P.YAR w hsw t l hp' (fun h c hc=>(h.2.2 c hc).1)
  rw[e1,e2]
  simp only[oS]
  rw[if_pos True.intro,if_pos True.intro]
  by_cases hb:b=true
  · obtain⟨hcs,ha,er⟩:=h3 hb
    rw[if_pos hb]
    have hlen:∀x,x∈l.map (fun c=>c.pat.splits)->x.length<=40/\∀q,q∈x->q.wt<=900:=fun x hx=>by
      obtain⟨c,h,rfl⟩:=List.mem_map.1 hx
      have hpo:=(hcs.2.2 c h).1
      refine⟨by rw[Zx];exact ha c h,fun q hq=> ?_⟩
      have:=(ZB0 10 t c.pat hpo.1 hpo.2.1 q hq).2.2
      have:=hpo.2.2
      omega
    have hr:r.length<=67108864:=by
      have:=ZDU (l.map fun c=>c.pat.splits) 0 [] hlen
      rw[List.length_map,List.length_nil]at this
      have h8:=hcs.2.1
      rw[er,List.length_append]
      simp only[List.length_cons,List.length_nil]
      omega
    have key:∀(m i:Nat),l.length-i=m->F.f208 (w,t,l) (r,b) i=some (.go ()):=by
      intro m
      induction m with
      |zero=>intro i hm;rw[F.f208,if_neg (by show ¬i<l.length;omega)]
      |succ m ih=>
        intro i hm
        have hi:i<l.length:=by omega
        have hpo:=(hcs.2.2 _ (gM hi)).1
        obtain⟨ps,e3,h4⟩:=P.YAQ w hsw t l[i].pat hcs.1 hpo
        have h40:=ha _ (gM hi)
        rw[F.f208,if_pos (show i<l.length from hi)]
        simp only[gQ hi,oE,oS]
        rw[e3]
        simp only[oS]
        rw[P.YAk (w,t,l) (r,b) i _ hr _ 0 0 rfl (Nat.le_refl _)]
        simp only[oS,List.drop_zero]
        have ec:ZEt i r=ps.length:=by
          rw[er,ZA1,ZFq,h4 (by omega),if_pos (Nat.zero_le _),Nat.sub_zero,List.getElem?_map,gQ hi]
          simp only[Option.map_some,Option.getD_some,Zx]
          simp[ZEt,ZOI]
        rw[if_pos (decide_eq_true (show l[i].pat.alts<=400 by omega)),if_pos (by omega),if_pos (by have:=hcs.2.1;omega),ih (i+1) (by omega)]
    rw[key _ 0 rfl]
    rfl
  · rw[if_neg hb]
    simp
end Go.Vl
