/- Part. -/
import Derived.Test.YtnockmfobogfpaaGreatVlQ
set_option linter.all false
namespace Go.Vl
open Go
def Ole {α:Type}(x y:Option α):Prop:=∀r,x=some r->y=some r
variable {α:Type}
theorem Ole.refl (x:Option α):Ole x x:=fun _ h=>h
theorem Ole.none (x:Option α):Ole none x:=fun _ h=>by cases h
theorem Ole.bind {β:Type}{x y:Option α}{f g:α->Option β}(h:Ole x y)(hf:∀a,Ole (f a) (g a)):Ole (x>>=f) (y>>=g):=by
  intro r hr
  obtain⟨a,h1,h2⟩:=ob hr
  rw[h a h1];exact hf a r h2
theorem Ole.ite {α:Type}{c:Prop}[d:Decidable c]{a b a' b':Option α}(h1:Ole a a')(h2:Ole b b'):Ole (if c then a else b) (if c then a' else b'):=by
  split
  · exact h1
  · exact h2
instance (p q:Int×Int):Decidable (eq2 p q):=inferInstanceAs (Decidable (p.1=q.1/\p.2=q.2))
end Go.Vl
