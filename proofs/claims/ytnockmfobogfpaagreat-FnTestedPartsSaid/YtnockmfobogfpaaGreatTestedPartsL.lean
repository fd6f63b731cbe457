/- Part. -/
import Derived.Test.YtnockmfobogfpaaGreatTestedPartsB
set_option linter.all false
set_option maxRecDepth 100000
open List renaming drop_eq_getElem_cons->zA,drop_zero->zB
namespace Go.Vl
open Go Go.RowKit
open Go.IntKind (i64)
theorem P.Yb (a:List (List Int)):F.f249 a a=some true:=by
  have lp:∀(m i:Nat),a.length-i=m->F.f248 a a i=some (.go ()):=by
    intro m
    induction m with
    |zero=>intro i hm;rw[F.f248,iN (by omega)]
    |succ m ih=>
      intro i hm
      have hi:i<a.length:=by omega
      rw[F.f248,iP hi,gQ hi]
      simp only[oE,oS]
      rw[P.YN,ZF rfl]
      simp only[oS]
      rw[iP trivial]
      exact ih (i+1) (by omega)
  unfold F.f249
  rw[iP rfl,lp _ 0 rfl];rfl
theorem P.Yw (l:List (List Int))(p:List Int)(h:p∈l):F.f251 l p=some true:=by
  have lp:∀(m i:Nat),l.length-i=m->p∈l.drop i->F.f250 l p i=some (.ret true):=by
    intro m
    induction m with
    |zero=>intro i hm hp;rw[List.drop_eq_nil_of_le (by omega)]at hp;cases hp
    |succ m ih=>
      intro i hm hp
      have hi:i<l.length:=by omega
      rw[F.f250,iP hi,gQ hi]
      simp only[oE,oS]
      rw[P.YN]
      simp only[oS]
      by_cases e:l[i]=p
      · rw[ZF e,iP rfl]
      · rw[ZD e,iN (by decide)]
        rw[zA hi]at hp
        exact ih (i+1) (by omega) ((List.mem_cons.1 hp).resolve_left fun h=>e h.symm)
  unfold F.f251
  rw[lp _ 0 rfl (by simpa using h)];rfl
theorem P.YBD (v:(List Data)×Ty×(List Clause)×Value)(ps:List (List Int))(i:Nat)(hi:i<ps.length)(hl:ps[i].length<=1048576):∀(m k:Nat) (x u:Value),ps[i].length-k=m->vAt (ps[i].drop k) x=some u->F.f252 v ps i x.ctor x.n x.kids k=some (.go ()):=by
  intro m
  induction m with
  |zero=>
    intro k x u hm hu
    rw[F.f252,gQ hi]
    simp only[oE,oS]
    rw[iN (by omega)]
  |succ m ih=>
    intro k x u hm hu
    have hk:k<ps[i].length:=by omega
    rw[zA hk,vAt]at hu
    cases e:at? x.kids ps[i][k]with
    |none=>rw[e]at hu;cases hu
    |some y=>
      rw[e]at hu
      obtain⟨h1,h2⟩:=ZQ e
      have h3:=(List.getElem?_eq_some_iff.1 h2).1
      rw[F.f252,gQ hi]
      simp only[oE,oS]
      rw[iP hk,gQ hk]
      simp only[oS]
      rw[iN (by omega),iN (by omega),e]
      simp only[oS]
      rw[iP (by omega)]
      exact ih (k+1) y u (by omega) hu
theorem P.FnTestedParts (code:List Int)(hc:ZFl code):F.f254 code=some true:=by
  unfold F.f254
  refine ZSl (fun _=>rfl) fun hcl=> ?_
  obtain⟨w,t,l,v,e1,hw,hl,hv⟩:=P.Yo code hc
  rw[e1]
  simp only[oE,oS]
  obtain⟨r,g1,g2,g3⟩:=P.Yi w hw t l v hl (by omega)
  rw[g1,g2]
  simp only[oS]
  rw[P.Yb]
  simp only[oS]
  rw[iP trivial]
  have key:ParOk r/\(∀p,p∈r->∃u,vAt p v=some u)/\r.length<=60000000:=by
    rcases g3 with rfl|⟨ps,rfl,q1,q2,c1,c2,c3,c4⟩
    · exact⟨.nil,(fun p hp=>by cases hp),by simp⟩
    · obtain⟨k1,k2⟩:=ZJO (ZIq c1 c3 c2).2 (by omega) (ZLP c1 c2) (Nat.zero_le _) (fun p hp=>by cases hp) .nil ps c4
      have h4:=ZGf ps []
      refine⟨k2.fold,fun p hp=>k1 p (((ZD0 _ _).1 hp).resolve_left fun h=>by cases h),by simp at h4;omega⟩
  obtain⟨k1,k2,k3⟩:=key
  have lp:∀(m i:Nat),r.length-i=m->F.f253 (w,t,l,v) r i=some (.go ()):=by
    intro m
    induction m with
    |zero=>intro i hm;rw[F.f253,iN (by omega)]
    |succ m ih=>
      intro i hm
      have hi:i<r.length:=by omega
      obtain⟨u,hu⟩:=k2 _ (gM hi)
      have hpl:=ZHB _ _ _ hu
      rw[F.f253,iP hi,P.YBD (w,t,l,v) r i hi (by omega) _ 0 v u rfl (by simpa using hu),gQ hi]
      simp only[oE,oS]
      by_cases h0:0<r[i].length
      · have hwr:i64.wrap ((r[i].length:Int) -1)=((r[i].length-1:Nat):Int):=by rw[ZC (by omega) (by omega)];omega
        rw[iP h0,iP (by omega),hwr,iP (by omega),Int.toNat_natCast,zB,zB,Nat.sub_zero,Nat.sub_zero,←List.dropLast_eq_take]
        have hpar:=(k1.at i hi).resolve_left fun h=>by rw[h]at h0;simp at h0
        rw[P.Yw _ _ hpar]
        simp only[oS]
        rw[iP trivial,iP (by omega)]
        exact ih (i+1) (by omega)
      · rw[iN h0,iP (by omega)]
        exact ih (i+1) (by omega)
  rw[lp _ 0 rfl];rfl
end Go.Vl
