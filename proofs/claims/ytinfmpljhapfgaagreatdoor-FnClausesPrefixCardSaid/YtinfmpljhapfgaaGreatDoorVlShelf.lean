/- A part of the proof. -/
import Derived.Test.YtinfmpljhapfgaaGreatDoorVlText
import Derived.Test.YtinfmpljhapfgaaGreatDoorVlStep
import Derived.Shelf.Strings.OnBuilder
import Derived.Shelf.Strconv.Itoa3
set_option linter.unusedVariables false
set_option linter.unusedSimpArgs false
set_option linter.unusedVariables false
namespace Go.Vl
open Go Go.Proofs Go.Shelf Go.RowKit
variable {P : Program} {B : Nat} {ρ : Ren}
theorem shelf_itoa (L:Lays.n171 P ρ)(he:Ent P (ρ.f 171)){n:Int}(h0:0≤n)(h1:n<100):
  PureCall P B (ρ.f 171) [.lit (.int .i64 n)] (.lit (.string (ZGY n))):=by
 refine⟨he,by simp[AV.pure],fun av w vs hav hv=> ?_⟩
 obtain⟨hs,hc⟩:=hv
 have c0:=Conc.lit_inv (hc 0 _ rfl)
 have e:vs=#[.int .i64 n]:=by
  apply Array.ext
  ·simpa using hs
  ·intro i h1 h2
   have:i=0:=by simp at h2;omega
   subst this
   simpa[Array.getD,h1]using c0
 subst e
 obtain⟨i,rfl⟩:=Int.eq_ofNat_of_zero_le h0
 refine(Any.strconv_Itoa_small L i (by omega) w).mono ?_
 rintro e w' ⟨rfl,rfl⟩
 exact⟨_,rfl,.lit _,Below.refl _ _⟩
theorem shelf_join (L:Lays.n156 P ρ)(X:Builder.Extra P ρ)(he:Ent P (ρ.f 156)){xs:List ByteArray}{sep:ByteArray}(h:ZHP xs sep):
  PureCall P B (ρ.f 156) [.arr (List.map (fun x=>[.lit (.string x)]) xs),.lit (.string sep)] (.lit (.string (ZCD xs sep))):=by
 refine⟨he,by simp[AV.pure],fun av w vs hav hv=> ?_⟩
 obtain⟨hs,hc⟩:=hv
 have c1:=Conc.lit_inv (hc 1 _ rfl)
 have c0:=hc 0 _ rfl
 generalize hu:vs.getD 0 undef=u at c0
 have e:vs=#[u,.string sep]:=by
  apply Array.ext
  ·simpa using hs
  ·intro i h1 h2
   have hi:i<2:=by simpa using h2
   rcases i with _|_|i
   ·simpa[Array.getD,h1]using hu
   ·simpa[Array.getD,h1]using c1
   ·omega
 subst e
 generalize hes:List.map (fun x=>[AV.lit (.string x)]) xs=es at c0
 cases c0 with
 |arr es b off sz cap ys hB hsz hW hb hcap hc hx=>
  have hl:es.length=xs.length:=by rw[←hes];simp
  by_cases hx0:xs=[]
  ·subst hx0
   rw[hl]
   refine(Any.strings_Join_none L X _ _ sep w).mono ?_
   rintro e w' ⟨rfl,rfl⟩
   exact⟨_,rfl,.lit _,Below.refl _ _⟩
  ·have h1:sz=1:=by
    obtain⟨x,r,rfl⟩:=List.exists_cons_of_ne_nil hx0
    have:=hsz [.lit (.string x)] (by rw[←hes];simp)
    simpa using this.symm
   subst h1
   rw[hl]at hcap ⊢
   refine(Any.strings_Join L X b off cap xs sep w (fun j x hj=> ?_) hb h.1 hcap h.2).mono ?_
   ·have he:es[j]? =some [.lit (.string x)]:=by rw[←hes];simp[hj]
    have q1:=hc j _ 0 _ he rfl
    have q2:=Conc.lit_inv (hx j _ 0 _ he rfl)
    rw[q2]at q1
    simpa using q1
   ·rintro e w' ⟨rfl,hb'⟩
    exact⟨_,rfl,.lit _,hb'⟩
 |arrNil a cap=>
  have hx0:xs=[]:=by simpa using hes
  subst hx0
  refine(Any.strings_Join_none L X _ _ sep w).mono ?_
  rintro e w' ⟨rfl,rfl⟩
  exact⟨_,rfl,.lit _,Below.refl _ _⟩
end Go.Vl
