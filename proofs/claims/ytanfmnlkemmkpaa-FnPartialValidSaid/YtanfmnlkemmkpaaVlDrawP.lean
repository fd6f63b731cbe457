/- The value-level layer: drawn regions with one call whose outcome is not known ahead, in another order of the text. -/
import Derived.Test.YtanfmnlkemmkpaaVlDrawN
set_option linter.unusedSimpArgs false
set_option linter.unusedVariables false
namespace Go.Vl
open Go Go.RowKit
section
variable {P : Program} {B nb N : Nat} {fs : List FuncId} {ops : Array Oper}
theorem NCallA.mono {f:FuncId}{args:List AV}{σ:Store}{K K':AV→Store→Prop}(hk:∀r s,K r s→K' r s)(h:NCallA P B f args σ K):NCallA P B f args σ K':=by
 obtain⟨X,x,V,T,h1,h2⟩:=h
 exact⟨X,x,V,T,h1,fun x=>hk _ _ (h2 x)⟩
theorem NCallO.mono {op:Op}{ρ:Operand→AV}{σ:Store}{K K':AV→Store→Prop}(hk:∀r s,K r s→K' r s)(h:NCallO P B op ρ σ K):NCallO P B op ρ σ K':=by
 unfold NCallO at h ⊢
 split
 ·next f args tys=>
  simp only at h
  split
  ·next fi first cap hf=>rw[hf]at h;exact NCallA.mono hk h
  ·next hn=>
   split at h
   ·next fi first cap hf=>exact absurd hf (hn _ _ _)
   ·exact h
 ·next hn=>
  split at h
  ·next f args tys=>exact absurd rfl (hn _ _ _)
  ·exact h
end
end Go.Vl
