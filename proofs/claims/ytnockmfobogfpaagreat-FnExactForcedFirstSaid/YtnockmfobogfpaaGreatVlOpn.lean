/- Part. -/
import Derived.Test.YtnockmfobogfpaaGreatVlUnp
import Derived.Test.YtnockmfobogfpaaGreatVlSwap
import Derived.Test.YtnockmfobogfpaaGreatVlG
set_option linter.all false
namespace Go.Vl
open Go Go.RowKit
section
variable {P : Program} {B nb N : Nat}
def ZR0 (σ:ZE)(l p:Nat)(es2:List (List AV))(ces2:List (List AV))(as:List (List AV))(us:List Go.Value):ZE:=
 (σ.set l (.elems 2 es2)).set p .dead++[.elems 3 ces2,.dead,.elems 2 as,.pack as.flatten us]
theorem Gh.sim {σ σ2:ZE}(hg:∀nb N fr,Gh B nb N ⟨fr,σ⟩ ⟨fr,σ2⟩){m:Map}{w:World}(hs:Sim B m σ w):∃m',Sim B m' σ2 w/\Fr m w m' w:=by
 obtain⟨m',h⟩:=hg m.n 0 [] m w m ⟨#[],[]⟩ w ⟨hs,⟨rfl,fun i=>.junk _⟩,rfl,Fr.refl m w,rfl,hs.mapOk⟩
 exact⟨m',h.sim,h.step⟩
def ZSz (B:Nat)(K:AV->ZE->Prop)(r:AV)(σ':ZE):Prop:=∀(m:Map) (w:World),Sim B m σ' w->∃σ2 m2,K r σ2/\Sim B m2 σ2 w/\Fr m w m2 w
end
attribute [simp] ZR0
end Go.Vl
