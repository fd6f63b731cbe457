/- The value-level layer: drawn regions with one call whose outcome is not known ahead, in another order of the text. -/
import Derived.Test.YtbibfeagkocjlaaVlDrawN
set_option linter.all false
namespace Go.Vl
open Go Go.RowKit
section
variable {P : Program} {B nb N : Nat} {fs : List FuncId} {ops : Array Oper}
theorem ZEQ {ops' : Array Oper} {KK KK' : List Nat → List (Nat × Nat) → Frm → List ZA → List AV → Lds → Prop} (hKK : ∀ a b c d e f, KK a b c d e f → KK' a b c d e f) (l : List Oper) : ∀ (l' : List Oper) (xs : List Nat) (ts : List (Nat × Nat)) (fr : Frm) (ss : List ZA) (ps : List AV) (ls : Lds), l'.length = l.length → (∀ (i : Nat) (o o' : Oper), l[i]? = some o → l'[i]? = some o' → ZFV ops ops' o o') →
    aLg fs P B N ops l xs ts fr ss ps ls KK→aLg fs P B N ops' l' xs ts fr ss ps ls KK':=by
  induction l with
  |nil=>
    intro l' xs ts fr ss ps ls hl _ h
    have:l'=[]:=List.eq_nil_of_length_eq_zero hl
    subst this;exact hKK _ _ _ _ _ _ h
  |cons o r ih=>
    intro l' xs ts fr ss ps ls hl hs h
    cases l' with
    |nil=>simp at hl
    |cons o' r'=>
      obtain⟨h1,h2,h3⟩:=hs 0 o o' rfl rfl
      have ih':=fun xs ts fr ss ps ls=>ih r' xs ts fr ss ps ls (by simpa using hl) (fun i p p' hp hp'=>hs (i+1) p p' (by simpa using hp) (by simpa using hp'))
      clear ih hs
      rw[aLg]at h
      rw[aLg,h1,h2]
      refine ZDq h3 ?_ ?_ h
      · rintro⟨c1,c2⟩
        exact⟨c1,ZFJ (fun r σ' hh=>⟨hh.1,ih' _ _ _ _ _ _ hh.2⟩) c2⟩
      · rintro⟨c1,c2⟩
        exact⟨c1,ih' _ _ _ _ _ _ c2⟩
theorem NCallA.mono {f:FuncId}{args:List AV}{σ:ZA}{K K':AV→ZA→Prop}(hk:∀r s,K r s→K' r s)(h:NCallA P B f args σ K):NCallA P B f args σ K':=by
  obtain⟨X,x,V,T,h1,h2⟩:=h
  exact⟨X,x,V,T,h1,fun x=>hk _ _ (h2 x)⟩
theorem NCallO.mono {op:Op}{ρ:Operand→AV}{σ:ZA}{K K':AV→ZA→Prop}(hk:∀r s,K r s→K' r s)(h:NCallO P B op ρ σ K):NCallO P B op ρ σ K':=by
  unfold NCallO at h ⊢
  split
  · next f args tys=>
    simp only at h
    split
    · next fi first cap hf=>rw[hf]at h;exact NCallA.mono hk h
    · next hn=>
      split at h
      · next fi first cap hf=>exact absurd hf (hn _ _ _)
      · exact h
  · next hn=>
    split at h
    · next f args tys=>exact absurd rfl (hn _ _ _)
    · exact h
theorem ADraw.effNP {fr : Frm} {σ : ZA} {K : ASt → Prop} {b' : Box K} (es : List (Nat × Nat)) (ord : List Nat) (fs : List FuncId) (tab : List (Nat × Nat)) (xs : List Nat) (xc : Nat) (hlt : xc < ops.size)
    (hm:P.follows .mixedOrders=true) (hp:ZD6 ord ops.size=true)
    (hd:ZAL fs (Za ord (ZH es ops))=true) (ht:ZHv fs (Za ord (ZH es ops)) tab=true) (hx:ZA7 fs (Za ord (ZH es ops)) tab (xs.map (· ==1))=true)
    (hlat:ZDh (Za ord (ZH es ops)) xc=true) (hoe:ZI fs ((ZAH ord ops.toList).getD xc ZA9).op=true) (hog:((ZAH ord ops.toList).getD xc ZA9).guard=none)
    (h:∀L,ZAH ord ops.toList=L→aLg fs P B N (hold ops .mk) (hold (L.take xc) .mk) xs tab fr [σ] [] [] (hold (fun xs1 ts1 fr1 ss1 ps1 ls1=>NCallO P B (L.getD xc ZA9).op (ev fr1) (ss1.headD []) (hold (fun r σ'=>ZBV N (L.getD xc ZA9).dst (hold (aL fs P B N (hold ops .mk) (hold (L.drop (xc+1)) .mk) xs1.tail ts1.tail (Zh (L.getD xc ZA9).dst r fr1) (σ'::ss1) ps1 ls1 (hold (fun fr' σ'=>K ⟨fr',σ'⟩) .mk)) .mk)) .mk)) .mk)):ADraw P B nb N (ZH es ops) ⟨fr,σ⟩ (hold K b'):=by
  have h:=h _ rfl
  have hp':ZD6 ord (ZH es ops).size=true:=by rw[ZG];exact hp
  have hk:=PermOk.of hp'
  refine ADraw.perm ord hp' ?_
  have hdst:∀j,((Za ord (ZH es ops))[ord.idxOf j]?).bind (·.dst)=(ops[j]?).bind (·.dst):=by
    intro j
    rw[ZB3 hk]
    obtain⟨g,h1,h2⟩:=Zc es j ops
    rw[h2]
    cases ops[j]? with
    |none=>rfl
    |some o=>exact(h1 o).2.1
  have hsz:(Za ord (ZH es ops)).toList.length=(ZAH ord ops.toList).length:=by simp[Za,ZAH]
  have same:∀(i:Nat) (o o':Oper),(ZAH ord ops.toList)[i]? =some o→(Za ord (ZH es ops)).toList[i]? =some o'→ZFV ops (Za ord (ZH es ops)) o o':=by
    intro i o o' ho ho'
    have hi:i<ord.length:=by
      have:=(List.getElem?_eq_some_iff.1 ho).1
      simpa[ZAH]using this
    have hin:ord[i]<ops.size:=by have:=hk.lt i hi;rwa[ZG]at this
    have e1:ops.toList.getD ord[i] ZA9=o:=by
      unfold ZAH at ho
      rw[List.getElem?_map,List.getElem?_eq_getElem hi]at ho
      exact Option.some.inj ho
    have e2:ZDL ord ((ZH es ops).getD ord[i] ZA9)=o':=by
      unfold Za at ho'
      simp only[List.toList_toArray]at ho'
      rw[List.getElem?_map,List.getElem?_eq_getElem hi]at ho'
      exact Option.some.inj ho'
    obtain⟨g,h1,h2⟩:=Zc es ord[i] ops
    have e3:(ZH es ops).getD ord[i] ZA9=g o:=by
      rw[Array.getD_eq_getD_getElem?,h2,←e1,List.getD_eq_getElem?_getD,Array.getElem?_toList,Array.getElem?_eq_getElem hin];rfl
    rw[e3]at e2
    subst e2
    refine⟨(h1 o).1,(h1 o).2.1,?_⟩
    unfold ZDL
    rw[(h1 o).2.2]
    cases hg:o.guard with
    |none=>exact .inl ⟨rfl,rfl⟩
    |some p=>obtain⟨j,w⟩:=p;exact .inr ⟨j,ord.idxOf j,w,rfl,rfl,hdst j⟩
  have hl:ord.length=ops.size:=by have:=hk.len;rwa[ZG]at this
  have hxl:xc<(ZAH ord ops.toList).length:=by simp[ZAH];omega
  have hxo:(ZAH ord ops.toList)[xc]? =some ((ZAH ord ops.toList).getD xc ZA9):=by
    rw[List.getD_eq_getElem?_getD,List.getElem?_eq_getElem hxl];rfl
  have hxo':(Za ord (ZH es ops)).toList[xc]? =some ((Za ord (ZH es ops)).toList.getD xc ZA9):=by
    rw[List.getD_eq_getElem?_getD,List.getElem?_eq_getElem (by omega)];rfl
  obtain⟨s1,s2,s3⟩:=same xc _ _ hxo hxo'
  have hog':((Za ord (ZH es ops)).toList.getD xc ZA9).guard=none:=by
    rcases s3 with⟨_,q⟩|⟨j,j',b,q,_⟩
    · exact q
    · rw[hog]at q;cases q
  have hlt2:xc<(Za ord (ZH es ops)).size:=by rw[ZAp,hk.len,ZG];exact hlt
  refine ADraw.effN2 (ops:=Za ord (ZH es ops)) (b:=.mk) (b':=b') fs tab xs xc hlt2 hm hd ht hx hlat (by rw[s1];exact hoe) hog' ?_
  simp only[hold]at h ⊢
  refine ZEQ (fun xs1 ts1 fr1 ss1 ps1 ls1 hN=> ?_) _ _ xs tab fr [σ] [] [] (by rw[List.length_take,List.length_take,hsz]) (fun i o o' ho ho'=> ?_) h
  · rw[s1,s2]
    refine NCallO.mono (fun r σ' q=>⟨q.1,?_⟩) hN
    refine ZGS _ _ _ _ _ _ _ _ (by rw[List.length_drop,List.length_drop,hsz]) (fun i o o' ho ho'=> ?_) q.2
    rw[List.getElem?_drop]at ho ho'
    exact same _ _ _ ho ho'
  · rw[List.getElem?_take]at ho ho'
    split at ho
    · next hlt'=>rw[if_pos hlt']at ho';exact same _ _ _ ho ho'
    · cases ho
end
end Go.Vl
