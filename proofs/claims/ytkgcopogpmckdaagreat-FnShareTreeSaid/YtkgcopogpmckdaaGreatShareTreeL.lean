/- The plain law of FnShareTree. -/
import Derived.Test.YtkgcopogpmckdaaGreatShareTreeB
set_option linter.all false
namespace Go.Vl
open Go Go.RowKit
theorem P.Yd (v:Tree)(l:List Node)(hl:l.length≤300)(hb:∀n,n∈l→n.binds.length≤67108864)(hn:l.Nodup)(i:Nat)(hi:i<l.length):∀(m k:Nat),i-k=m→F.f223 v (l,true) i k=some (.go ())
  |0,k,hm=>by rw[F.f223,if_neg (by omega)]
  |m+1,k,hm=>by
    have hk:k<i:=by omega
    have e1:(l.drop i).take (i+1-i)=[l[i]]:=by rw[List.drop_eq_getElem_cons hi,Nat.add_sub_cancel_left];rfl
    have e2:(l.drop k).take (k+1-k)=[l[k]]:=by rw[List.drop_eq_getElem_cons (by omega),Nat.add_sub_cancel_left];rfl
    have ne:([l[i]]:List Node)≠[l[k]]:=fun e=>by
      have:=ZEt hn hi (by omega) (List.cons.inj e).1
      omega
    rw[F.f223,if_pos hk]
    simp only
    rw[if_pos (by omega),if_pos (by omega),if_pos (by omega),if_pos (by omega),e1,e2,P.YP _ _ (fun n h=>by rw[List.mem_singleton.1 h];exact hb _ (List.getElem_mem hi)) (by simp),ZH ne]
    simp only[Option.bind_eq_bind,Option.bind_some]
    rw[if_neg (by decide)]
    exact P.Yd v l hl hb hn i hi m (k+1) (by omega)
theorem P.Ye (v:Tree)(l:List Node)(hl:l.length≤300)(hb:∀n,n∈l→n.binds.length≤67108864)(hn:l.Nodup):∀(m i:Nat),l.length-i=m→F.f224 v (l,true) i=some (.go ())
  |0,i,hm=>by rw[F.f224,if_neg (by simp only;omega)]
  |m+1,i,hm=>by
    have hi:i<l.length:=by omega
    rw[F.f224,if_pos hi,P.Yd v l hl hb hn i hi _ 0 rfl]
    simp only[Option.bind_eq_bind,Option.bind_some]
    rw[if_pos (by omega)]
    exact P.Ye v l hl hb hn m (i+1) (by omega)
theorem P.FnShareTree (code:List Int)(hc:ZAq code):F.f225 code=some true:=by
  unfold F.f225
  split
  · rfl
  obtain⟨x,e,hw⟩:=P.YAD code hc
  rw[e]
  simp only[Option.bind_eq_bind,Option.bind_some]
  rcases P.YAg x hw with⟨e1,e2⟩|⟨h1,h2,l,k,e1,e2,h3,hl,hb,hp⟩
  · rw[e1,e2]
    simp only[Option.bind_some]
    rw[P.YP [] [] (by simp) (by simp),ZI rfl]
    rfl
  · have hv:=h3.valid h2 h1
    have hlen:=h3.len
    rw[e1,e2]
    simp only[Option.bind_some]
    rw[hp]
    simp only[Option.bind_some]
    rw[P.Ye x l hl hb h3.inv.1 _ 0 rfl,if_pos True.intro,if_pos True.intro,if_pos True.intro]
    simp only[Option.bind_some]
    rw[P.Yh h3 h2 h1 (by omega),P.YR l (by omega),ZI hv]
    simp only[Option.bind_some]
    rw[if_pos True.intro,P.YX x (by omega)]
    simp only[Option.bind_some]
    rw[if_pos (by simp at hlen;omega),if_pos True.intro,P.Yk]
    rfl
end Go.Vl
