/- The value-level layer, part 15: what simp may open. -/
import Derived.Test.YtelglbenbnkjmaaVlGhost
set_option linter.unusedSimpArgs false
set_option linter.unusedVariables false
namespace Go.Vl
open Go Go.RowKit

theorem gh_sub {B nb N : Nat} {fr fr' : Frm} {σ s g : Store} (he : σ = s ++ g) (hn : nb ≤ s.length) (hc : sclosed s.length s) (hf : frSub s.length fr fr') : Gh B nb N ⟨fr, σ⟩ ⟨fr', s⟩ := by
  subst he; exact Gh.sub g hn hc hf

theorem wrap_in {n : Int} (h0 : -9223372036854775808 ≤ n) (h1 : n ≤ 9223372036854775807) : IntKind.i64.wrap n = n := by
  simp only [IntKind.wrap, IntKind.bits, IntKind.signed]; simp; omega

end Go.Vl
