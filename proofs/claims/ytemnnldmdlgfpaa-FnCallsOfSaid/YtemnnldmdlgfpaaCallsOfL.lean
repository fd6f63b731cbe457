/- The plain law of FnCallsOf. -/
import Derived.Test.YtemnnldmdlgfpaaCallsOfB
set_option linter.unusedSimpArgs false
set_option linter.unusedVariables false
namespace Go.Vl
open Go Go.RowKit
theorem P.laws_ptInts_self (l:List Int):F.f85 l l=some true:=by
  have key:∀(m k:Nat),l.length-k=m→F.f84 l l k=some (.go ()):=by
    intro m
    induction m with
    |zero=>intro k hm;rw[F.f84,if_neg (by omega)]
    |succ m ih=>
      intro k hm
      have hk:k<l.length:=by omega
      rw[F.f84,if_pos hk,List.getElem?_eq_getElem hk]
      simp only[Option.bind_eq_bind,Option.bind_some,if_true]
      exact ih (k+1) (by omega)
  unfold F.f85
  rw[if_pos rfl,key _ 0 rfl];rfl
theorem P.FnCallsOf (code:List Int)(hc:bytesOk code):F.f90 code=some true:=by
  unfold F.f90
  split
  · rfl
  obtain⟨w,fs,vs,t,e,h,hw,hf,hv,he⟩:=P.DrawExprValid code hc
  unfold F.f69
  rw[h]
  simp only[Option.bind_eq_bind,Option.bind_some]
  obtain⟨C,h1,h2,h3,h4,h5⟩:=P.CallsOf_set e
  rw[h1,h2]
  simp only[Option.bind_some]
  rw[P.laws_ptInts_self]
  simp only[Option.bind_some,if_true]
  have hlen:e.kids.length≤1048576:=by
    have:e.kids.length≤e.wt:=by
      rw[Expr.wt_eq,wtL]
      generalize e.kids=l
      induction l with
      |nil=>simp
      |cons x r ih=>simp only[List.length_cons,List.map_cons,List.sum_cons];omega
    omega
  have l2:∀(i:Nat) (x:Expr) (D:Nat→Bool),(∀n,D n=true→C n=true)→∀(m k:Nat),(setL 4 D).length-k=m→F.f88 e (setL 4 C) i (setL 4 D) k=some (.go ()):=by
    intro i x D hD m
    induction m with
    |zero=>intro k hm;rw[F.f88,if_neg (by omega)]
    |succ m ih=>
      intro k hm
      have hk:k<(setL 4 D).length:=by omega
      rw[F.f88,if_pos hk,List.getElem?_eq_getElem hk]
      simp only[Option.bind_eq_bind,Option.bind_some]
      rw[P.laws_ptIn]
      simp only[Option.bind_some]
      have hm':(setL 4 D)[k]∈setL 4 C:=by
        have:=List.getElem_mem hk
        rw[mem_setL]at this ⊢
        exact⟨this.1,this.2.1,hD _ this.2.2⟩
      rw[if_pos (dec_of hm')]
      exact ih (k+1) (by omega)
  have l1:∀(m i:Nat),e.kids.length-i=m→F.f89 e (setL 4 C) i=some (.go ()):=by
    intro m
    induction m with
    |zero=>intro i hm;rw[F.f89,if_neg (by omega)]
    |succ m ih=>
      intro i hm
      have hi:i<e.kids.length:=by omega
      rw[F.f89,if_pos hi,List.getElem?_eq_getElem hi]
      simp only[Option.bind_eq_bind,Option.bind_some]
      obtain⟨D,g1,g2,g3,_,_⟩:=P.CallsOf_set e.kids[i]
      rw[g2]
      simp only[Option.bind_some]
      rw[l2 i e D (h4 _ (List.getElem_mem hi) D g3) _ 0 rfl]
      simp only[Option.bind_some]
      rw[if_pos (by omega)]
      exact ih (i+1) (by omega)
  rw[l1 _ 0 rfl]
  simp only[Option.bind_some]
  split
  · next ho=>
    split
    · rfl
    · split
      · rfl
      · rw[P.laws_ptIn]
        simp only[Option.bind_some]
        rw[dec_of (mem_setL.2 ⟨by omega,by omega,h5 ho (by omega) (by omega)⟩)]
  · rfl
end Go.Vl
