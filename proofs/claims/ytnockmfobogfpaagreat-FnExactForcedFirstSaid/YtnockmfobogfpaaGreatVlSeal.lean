/- Part. -/
import Derived.Test.YtnockmfobogfpaaGreatVlDeep
set_option linter.all false
open List renaming getElem?_eq_some_iff->zA,getElem?_append_left->zB,getElem?_set_self->zC,getElem?_set_ne->zD,getElem?_append_right->zE,getElem?_eq_none->zF,length_append->zG
namespace Go.Vl
open Go Go.RowKit
section
variable {P : Program} {B nb N : Nat}
theorem CP.lits {σ:ZE}:∀us:List Value,CP σ (us.map .lit) us []
 | []=>.nil
 |u::us=>.lit u (CP.lits us)
def ZI4 (σ:ZE)(ids:List Nat)(la L sz:Nat)(rows es:List (List AV))(u:Value):ZE:=((drp σ ids).set la .dead).set L (.elems sz rows)++[.pack [.arr es] [u]]
theorem Sim.seal {m:Map}{σ:ZE}{w:World}(hs:Sim B m σ w)(L j la:Nat)(ids:List Nat){sz n sz2:Nat}{R:List (List AV)}{row:List AV}{rows2 es:List (List AV)}{us2:List Value}{zs:List AV}
  (hL:σ[L]? =some (.elems sz (R++[row]))) (hj:row[j]? =some (.own la n)) (hla:σ[la]? =some (.elems sz2 rows2)) (hcp:CP σ zs us2 ids) (hzs:es.flatten=zs) (hr:rows2.flatten=us2.map .lit) (hn:rows2.length=n) (he:es.length=n)
  (hsz:∀e,e∈es->e.length=sz2) (hne:L≠la) (hnd:ids.Nodup):∃u m',ZBU u/\Sim B m' (ZI4 σ ids la L sz (R++[row.set j (.lit u)]) es u) w/\Fr m w m' w:=by
 subst hzs
 have hLb:=hs.blk L
 rw[hL]at hLb
 obtain⟨g0,g1,g2⟩:=hLb
 rcases g2 with⟨_,g2⟩|⟨b,ccs,ty,g2,g3,g4,g5⟩
 ·simp at g2
 have hrow:(R++[row])[R.length]? =some row:=by simp
 obtain⟨u,hu,hcu⟩:=g5 R.length row j _ hrow hj
 obtain⟨F2,p3,p2,p1⟩:=hcp.sound hs hnd
 have hpk:=hcp.packs
 have hlan:la∉ids:=fun hl=>by
  obtain⟨xs,us,e⟩:=hpk la hl
  rw[hla]at e;cases e
 have hLids:L∉ids:=fun hl=>by
  obtain⟨xs,us,e⟩:=hpk L hl
  rw[hL]at e;cases e
 obtain⟨F',d1,d2,d3⟩:=ZDl hs hla p2 p3 (fun x hx hx'=>by
  obtain⟨l',hl',hb'⟩:=p1 x hx
  have:=hs.inj la l' x hx' hb'
  subst this
  exact hlan hl') hr hn he hsz hcu
 have hlaL:la<σ.length:=(zA.1 hla).1
 have hLL:L<σ.length:=(zA.1 hL).1
 have idL:∀l,l∈ids->l<σ.length:=fun l hl=>by obtain⟨xs,us,e⟩:=hpk l hl;exact(zA.1 e).1
 let m':Map:=⟨fun l=>if l=la∨l∈ids then .dead else if l=m.n then .pack F' else m.f l,m.n+1,m.av⟩
 have ed:∀l,l=la∨l∈ids->m'.f l=.dead:=fun l hl=>by simp[m',hl]
 have hnl:∀l,l=la∨l∈ids->l<m.n:=fun l hl=>by
  rw[hs.n];rcases hl with rfl|hl
  ·exact hlaL
  ·exact idL l hl
 have e0:m'.f m.n=.pack F':=by
  have:¬(m.n=la∨m.n∈ids):=fun h=>Nat.lt_irrefl _ (hnl _ h)
  simp[m',this]
 have eo:∀l,¬(l=la∨l∈ids)->l≠m.n->m'.f l=m.f l:=fun l h1 h2=>by simp[m',h1,h2]
 have inF:∀x,x∈F'->∃l,(l=la∨l∈ids)/\(m.f l).has x:=fun x hx=>by
  rcases d3 x hx with h|h
  ·exact⟨la,.inl rfl,h⟩
  ·obtain⟨l,hl,hb⟩:=p1 x h;exact⟨l,.inr hl,hb⟩
 have own:∀i x,(m'.f i).has x->(i=m.n/\x∈F')∨(¬(i=la∨i∈ids)/\i≠m.n/\(m.f i).has x):=by
  intro i x hx
  by_cases cd:i=la∨i∈ids
  ·rw[ed i cd]at hx;exact hx.elim
  by_cases c0:i=m.n
  ·subst c0;rw[e0]at hx;exact .inl ⟨rfl,hx⟩
  ·rw[eo i cd c0]at hx;exact .inr ⟨cd,c0,hx⟩
 have hwr:∀x,Wr m' x->Wr m x:=fun x ⟨i,hx⟩=>by
  rcases own i x hx with⟨_,q⟩|⟨_,_,q⟩
  ·obtain⟨l,_,hb⟩:=inF x q;exact⟨l,hb⟩
  ·exact⟨i,q⟩
 have hfr:Fr m w m' w:=⟨Nat.le_refl _,fun _ _ _=>rfl,fun b ccs ty _ _ hh=>⟨ccs,hh,rfl⟩,fun b hb=>.inl (hwr b hb),fun i hi=>by
   by_cases e:i=la∨i∈ids
   ·rw[ed i e];exact .inr (.inl rfl)
   ·rw[eo i e (by omega)];exact .inl rfl,Nat.le_add_right _ _,rfl,rfl,rfl,rfl⟩
 have hlen2:(((drp σ ids).set la .dead).set L (.elems sz (R++[row.set j (.lit u)]))).length=m.n:=by rw[List.length_set,List.length_set,ZCA,←hs.n]
 refine⟨u,m',ZFx d1 _ _ rfl rfl,⟨?_,fun i=> ?_,fun i i' x h1 h2=> ?_,fun x hx=>hs.sep x (hwr x hx),hs.avlt,hs.tb.sub hwr⟩,hfr⟩
 ·show m.n+1=_;unfold ZI4;rw[zG,hlen2];rfl
 ·unfold ZI4
  by_cases c0:i=m.n
  ·subst c0
   rw[e0,zE (by rw[hlen2];exact Nat.le_refl _),hlen2,Nat.sub_self]
   exact⟨F',rfl,d2,d1⟩
  by_cases c2:i<m.n
  ·rw[zB (by rw[hlen2];exact c2)]
   by_cases cL:i=L
   ·subst cL
    rw[zC (by rw[List.length_set,ZCA];exact hLL),eo i (fun h=>h.elim hne hLids) c0]
    refine⟨fun e he=> ?_,by simpa using g1,.inr ⟨b,ccs,ty,by rw[g2];simp,g3,by simpa using g4,fun i' e k x hi hk=> ?_⟩⟩
    ·rcases List.mem_append.1 he with he|he
     ·exact g0 e (List.mem_append_left _ he)
     ·rw[List.mem_singleton.1 he,List.length_set];exact g0 row (by simp)
    ·by_cases ci:i'<R.length
     ·rw[zB ci]at hi
      obtain⟨y,hy,hc⟩:=g5 i' e k x (by rw[zB ci];exact hi) hk
      exact⟨y,hy,hc.mono hfr⟩
     ·rw[zE (by omega)]at hi
      have hi0:i'-R.length=0:=by
       have:=(zA.1 hi).1;simp at this;omega
      have hiR:i'=R.length:=by omega
      rw[hi0]at hi
      obtain rfl:row.set j (.lit u)=e:=by simpa using hi
      subst hiR
      by_cases ck:j=k
      ·subst ck
       rw[zC (zA.1 hj).1]at hk
       obtain rfl:=Option.some.inj hk
       exact⟨u,hu,.lit u⟩
      ·rw[zD ck]at hk
       obtain⟨y,hy,hc⟩:=g5 _ row k x hrow hk
       exact⟨y,hy,hc.mono hfr⟩
   rw[zD (Ne.symm cL)]
   by_cases cla:i=la
   ·subst cla
    rw[ed i (.inl rfl),zC (by rw[ZCA];exact hlaL)];rfl
   rw[zD (Ne.symm cla)]
   by_cases cid:i∈ids
   ·rw[ed i (.inr cid),ZLC cid (idL i cid)];rfl
   ·rw[eo i (fun h=>h.elim cla cid) c0,ZHz cid]
    have hb:=hs.blk i
    cases hσ:σ[i]? with
    |none=>rw[hσ]at hb;exact hb
    |some k=>
     rw[hσ]at hb
     cases k with
     |dead=>exact hb
     |pack xs vs=>exact hb
     |tcells ot cs=>
      obtain⟨b,ccs,ty,g1,g2,g3,g4⟩:=hb
      refine⟨b,ccs,ty,g1,g2,g3,fun i x hx=> ?_⟩
      obtain⟨y,hy,hc⟩:=g4 i x hx
      exact⟨y,hy,hc.mono hfr⟩
     |telems oe sz es=>
      obtain⟨g0,g0',hb⟩:=hb
      refine⟨g0,g0',?_⟩
      rcases hb with hb|⟨b,ccs,ty,g1,g2,g3,g4⟩
      ·exact .inl hb
      ·refine .inr ⟨b,ccs,ty,g1,g2,g3,fun i e' k x hi hk=> ?_⟩
       obtain⟨y,hy,hc⟩:=g4 i e' k x hi hk
       exact⟨y,hy,hc.mono hfr⟩
  ·rw[zF (by rw[zG,hlen2];simp;omega)]
   have hb:=hs.blk i
   rw[zF (by rw[←hs.n];omega)]at hb
   rw[eo i (fun h=>c2 (hnl i h)) c0]
   exact hb
 ·rcases own i x h1 with⟨rfl,q⟩|⟨a1,a2,q⟩<;>rcases own i' x h2 with⟨rfl,q'⟩|⟨b1,b2,q'⟩
  ·rfl
  ·obtain⟨l,hl,hb⟩:=inF x q
   exact absurd (hs.inj l i' x hb q'▸hl) b1
  ·obtain⟨l,hl,hb⟩:=inF x q'
   exact absurd (hs.inj l i x hb q▸hl) a1
  ·exact hs.inj i i' x q q'
end
attribute [simp] ZI4
end Go.Vl
