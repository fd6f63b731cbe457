/- Part. -/
import Derived.Test.YtmjpphcloedceaaGreatVlDrawN
set_option linter.all false
namespace Go.Vl
open Go Go.RowKit
section
variable {P : Program} {B nb N : Nat} {fs : List FuncId} {ops : Array Oper}
theorem ZLG {ops':Array Oper}{KK KK':List Nat->List (Nat×Nat)->Frm->List ZE->List AV->Lds->Prop}(hKK:∀a b c d e f,KK a b c d e f->KK' a b c d e f)(l:List Oper):∀(l':List Oper) (xs:List Nat) (ts:List (Nat×Nat)) (fr:Frm) (ss:List ZE) (ps:List AV) (ls:Lds),l'.length=l.length->(∀(i:Nat) (o o':Oper),l[i]? =some o->l'[i]? =some o'->ZGG ops ops' o o')->
  aLg fs P B N ops l xs ts fr ss ps ls KK->aLg fs P B N ops' l' xs ts fr ss ps ls KK':=by
 induction l with
 |nil=>
  intro l' xs ts fr ss ps ls hl _ h
  have:l'=[]:=List.eq_nil_of_length_eq_zero hl
  subst this;exact hKK _ _ _ _ _ _ h
 |cons o r ih=>
  intro l' xs ts fr ss ps ls hl hs h
  cases l' with
  |nil=>simp at hl
  |cons o' r'=>
   obtain⟨h1,h2,h3⟩:=hs 0 o o' rfl rfl
   have ih':=fun xs ts fr ss ps ls=>ih r' xs ts fr ss ps ls (by simpa using hl) (fun i p p' hp hp'=>hs (i+1) p p' (by simpa using hp) (by simpa using hp'))
   clear ih hs
   rw[aLg]at h
   rw[aLg,h1,h2]
   refine ZES h3 ?_ ?_ h
   ·rintro⟨c1,c2⟩
    exact⟨c1,ZF0 (fun r σ' hh=>⟨hh.1,ih' _ _ _ _ _ _ hh.2⟩) c2⟩
   ·rintro⟨c1,c2⟩
    exact⟨c1,ih' _ _ _ _ _ _ c2⟩
variable {K K':AV->ZE->Prop}
theorem NCallA.mono {f:FuncId}{args:List AV}{σ:ZE}(hk:∀r s,K r s->K' r s)(h:NCallA P B f args σ K):NCallA P B f args σ K':=by
 obtain⟨X,x,V,T,h1,h2⟩:=h
 exact⟨X,x,V,T,h1,fun x=>hk _ _ (h2 x)⟩
theorem NCallO.mono {op:Op}{ρ:Operand->AV}{σ:ZE}(hk:∀r s,K r s->K' r s)(h:NCallO P B op ρ σ K):NCallO P B op ρ σ K':=by
 unfold NCallO at h ⊢
 split
 ·next f args tys=>
  simp only at h
  split
  ·next fi first cap hf=>rw[hf]at h;exact NCallA.mono hk h
  ·next hn=>
   split at h
   ·next fi first cap hf=>exact absurd hf (hn _ _ _)
   ·exact h
 ·next hn=>
  split at h
  ·next f args tys=>exact absurd rfl (hn _ _ _)
  ·exact h
end
end Go.Vl
