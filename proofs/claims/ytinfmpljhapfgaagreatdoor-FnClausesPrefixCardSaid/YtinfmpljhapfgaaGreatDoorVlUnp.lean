/- A part of the proof. -/
import Derived.Test.YtinfmpljhapfgaaGreatDoorVlDeep
set_option linter.all false
namespace Go.Vl
open Go Go.RowKit
section
variable {P : Program} {B nb N : Nat}
theorem Sim.unpack {m:Map}{σ:ZA}{w:World}(hs:Sim B m σ w)(p sz:Nat){es:List (List AV)}{v:Value}(hp:σ[p]? =some (.pack [.arr es] [v]))(hne:es≠[])(hsz0:∀e,e∈es->e.length=sz):
  ∃rows us m',rows.flatten=us.map .lit/\rows.length=es.length/\(∀e,e∈rows->e.length=sz)/\us.length=es.flatten.length/\Sim B m' (σ.set p .dead++[.elems sz rows,.pack es.flatten us]) w/\Fr m w m' w/\Conc B (Av m') w m' (.own σ.length es.length) v:=by
 have hb:=hs.blk p
 rw[hp]at hb
 obtain⟨F,f1,f2,f3⟩:=hb
 generalize hxs:[AV.arr es]=xs at f3
 generalize hvs:[v]=vs at f3
 cases f3 with
 |nil=>cases hxs
 |lit v h=>cases hxs
 | @emp a _ _ _ hd=>cases hxs;exact absurd rfl hne
 | @arr es0 b sz0 cap ccs ty _ _ F' _ hB hne' hsz hcap hh hsize hx hd=>
  cases hxs
  cases hd
  cases hvs
  have hsz':sz0=sz:=by
   obtain⟨e,r',rfl⟩:=List.exists_cons_of_ne_nil hne
   rw[←hsz e (List.mem_cons_self ..),hsz0 e (List.mem_cons_self ..)]
  subst hsz'
  have hul:(ccs.toList.take (es.length*sz0)).length=es.length*sz0:=by
   have h1:es.length*sz0<=cap*sz0:=Nat.mul_le_mul_right _ hcap
   rw[List.length_take,Nat.min_eq_left]
   rw[show ccs.toList.length=ccs.size from rfl]
   exact Nat.le_trans h1 hsize
  obtain⟨r1,r2,r3⟩:=ZA1 sz0 es.length _ hul
  generalize hus:ccs.toList.take (es.length*sz0)=us at hx r1 r2 r3 hul
  generalize hrw:ZBc sz0 es.length us=rows at r1 r2 r3
  simp only[List.append_nil]at f1 f2
  rw[List.nodup_cons]at f2
  have hpl:p<σ.length:=(List.getElem?_eq_some_iff.1 hp).1
  have hpn:p<m.n:=by rw[hs.n];exact hpl
  let m':Map:=⟨fun l=>if l=p then .dead else if l=m.n then .arr b sz0 es.length else if l=m.n+1 then .pack F' else m.f l,m.n+2,m.av⟩
  have ed:m'.f p=.dead:=by simp[m']
  have e0:m'.f m.n=.arr b sz0 es.length:=by
   have:m.n≠p:=by omega
   simp[m',this]
  have e1:m'.f (m.n+1)=.pack F':=by
   have:m.n+1≠p:=by omega
   simp[m',this]
  have eo:∀l,l≠p->l≠m.n->l≠m.n+1->m'.f l=m.f l:=fun l h1 h2 h3=>by simp[m',h1,h2,h3]
  have hF:∀x,x∈b::F'->(m.f p).has x:=fun x hx=>by rw[f1];exact hx
  have own:∀l x,(m'.f l).has x->(l=m.n/\x=b)∨(l=m.n+1/\x∈F')∨(l≠p/\l≠m.n/\l≠m.n+1/\(m.f l).has x):=by
   intro l x hx
   by_cases cd:l=p
   ·subst cd;rw[ed]at hx;exact hx.elim
   by_cases c0:l=m.n
   ·subst c0;rw[e0]at hx
    have hx:b=x:=hx
    exact .inl ⟨rfl,hx.symm⟩
   ·by_cases c1:l=m.n+1
    ·subst c1;rw[e1]at hx;exact .inr (.inl ⟨rfl,hx⟩)
    ·rw[eo l cd c0 c1]at hx;exact .inr (.inr ⟨cd,c0,c1,hx⟩)
  have hwr:∀x,Wr m' x->Wr m x:=fun x ⟨l,hx⟩=>by
   rcases own l x hx with⟨_,rfl⟩|⟨_,q⟩|⟨_,_,_,q⟩
   ·exact⟨p,hF _ (List.mem_cons_self ..)⟩
   ·exact⟨p,hF _ (List.mem_cons_of_mem _ q)⟩
   ·exact⟨l,q⟩
  have hfr:Fr m w m' w:=⟨Nat.le_refl _,fun _ _ _=>rfl,fun b ccs ty _ hh=>⟨ccs,hh,rfl⟩,fun b hb=>.inl (hwr b hb),fun l hl=>by
    by_cases e:l=p
    ·subst e;rw[ed];exact .inr (.inl rfl)
    ·rw[eo l e (by omega) (by omega)];exact .inl rfl,Nat.le_add_right _ _,rfl,rfl,rfl,rfl⟩
  have hul2:us.length=es.flatten.length:=by rw[hul,ZA4 hsz]
  refine⟨rows,us,m',r3,r1,r2,hul2,⟨?_,fun l=> ?_,fun l l' x h1 h2=> ?_,fun x hx=>hs.sep x (hwr x hx),hs.avlt⟩,hfr,?_⟩
  ·show m.n+2=_;rw[List.length_append,List.length_set,←hs.n];rfl
  ·show BlkSim B m' w (m'.f l) (σ.set p .dead++[.elems sz0 rows,.pack es.flatten us])[l]?
   by_cases cd:l=p
   ·subst cd
    rw[ed,List.getElem?_append_left (by simpa using hpl),List.getElem?_set_self hpl]
    rfl
   by_cases c0:l=m.n
   ·subst c0
    rw[List.getElem?_append_right (by rw[List.length_set,hs.n];exact Nat.le_refl _),List.length_set,←hs.n,Nat.sub_self]
    refine⟨r2,by omega,.inr ⟨b,ccs,ty,by rw[e0,r1],hh,by rw[r1];exact Nat.le_trans (Nat.mul_le_mul_right _ hcap) hsize,fun i e k x hi hk=> ?_⟩⟩
    have hfl:=ZAP r2 hi hk
    rw[r3,List.getElem?_map]at hfl
    obtain⟨y,hy,rfl⟩:=Option.map_eq_some_iff.1 hfl
    rw[←hus,List.getElem?_take]at hy
    split at hy
    ·exact⟨y,by simpa using hy,.lit y⟩
    ·cases hy
   ·by_cases c1:l=m.n+1
    ·subst c1
     rw[e1,List.getElem?_append_right (by rw[List.length_set,←hs.n];omega),List.length_set,←hs.n,Nat.add_sub_cancel_left]
     exact⟨F',rfl,f2.2,hx⟩
    ·rw[eo l cd c0 c1]
     by_cases c2:l<m.n
     ·rw[List.getElem?_append_left (by rw[List.length_set,←hs.n];exact c2),List.getElem?_set_ne (Ne.symm cd)]
      have hb:=hs.blk l
      cases hσ:σ[l]? with
      |none=>rw[hσ]at hb;exact hb
      |some k=>
       rw[hσ]at hb
       cases k with
       |dead=>exact hb
       |pack xs vs=>exact hb
       |cells cs=>
        obtain⟨b,ccs,ty,g1,g2,g3,g4⟩:=hb
        refine⟨b,ccs,ty,g1,g2,g3,fun i x hx=> ?_⟩
        obtain⟨y,hy,hc⟩:=g4 i x hx
        exact⟨y,hy,hc.mono hfr⟩
       |elems sz es=>
        obtain⟨g0,g0',hb⟩:=hb
        refine⟨g0,g0',?_⟩
        rcases hb with hb|⟨b,ccs,ty,g1,g2,g3,g4⟩
        ·exact .inl hb
        ·refine .inr ⟨b,ccs,ty,g1,g2,g3,fun i e' k x hi hk=> ?_⟩
         obtain⟨y,hy,hc⟩:=g4 i e' k x hi hk
         exact⟨y,hy,hc.mono hfr⟩
     ·rw[List.getElem?_eq_none (by rw[List.length_append,List.length_set,←hs.n];simp;omega)]
      have hb:=hs.blk l
      rw[List.getElem?_eq_none (by rw[←hs.n];omega)]at hb
      exact hb
  ·have hli:∀{j x},(m.f j).has x->(m.f p).has x->j=p:=fun{j x} q1 q2=>hs.inj j p x q1 q2
   rcases own l x h1 with⟨rfl,rfl⟩|⟨rfl,q⟩|⟨a1,a2,a3,q⟩<;>rcases own l' x h2 with⟨rfl,q'⟩|⟨rfl,q'⟩|⟨b1,b2,b3,q'⟩
   ·rfl
   ·exact absurd q' f2.1
   ·exact absurd (hli q' (hF _ (List.mem_cons_self ..))) b1
   ·subst q';exact absurd q f2.1
   ·rfl
   ·exact absurd (hli q' (hF _ (List.mem_cons_of_mem _ q))) b1
   ·subst q';exact absurd (hli q (hF _ (List.mem_cons_self ..))) a1
   ·exact absurd (hli q (hF _ (List.mem_cons_of_mem _ q'))) a1
   ·exact hs.inj l l' x q q'
  ·rw[←hs.n];exact .ownArr m.n b sz0 es.length cap ccs ty (by show m.n<m.n+2;omega) e0 hh hsize hcap (fun h=>absurd (List.eq_nil_of_length_eq_zero h) hne)
theorem ACall.after {f:FuncId}{args:List AV}{σ:ZA}{K0 K:AV->ZA->Prop}{b:Box K}(h:ACall P B f args σ (hold K0 .mk))
  (hh:∀r σ',K0 r σ'->∀(m:Map) (w:World) (u:Value),Sim B m σ' w->Conc B (Av m) w m r u->∃r2 σ2 m2,K r2 σ2/\Sim B m2 σ2 w/\Conc B (Av m2) w m2 r2 u/\Fr m w m2 w):ACall P B f args σ (hold K b):=by
 refine⟨h.1,fun m w vs hs hv=>(h.2 m w vs hs hv).mono ?_⟩
 rintro e w' ⟨u,r,σ',m',he,hK,h1,h2,h3⟩
 obtain⟨r2,σ2,m2,g1,g2,g3,g4⟩:=hh r σ' hK m' w' u h1 h2
 exact⟨u,r2,σ2,m2,he,g1,g2,g3,h3.trans g4 hs.mapOk⟩
theorem FCall.goO {f:FuncId}{args args':List AV}{es:List (List AV)}(h:FCall P B f args' (.arr es)){σ:ZA}(hb:brw.brws σ args args')(sz:Nat)(hsz:∀e,e∈es->e.length=sz){K:AV->ZA->Prop}{b:Box K}
  (h0:es=[]->∀v,K (.arr []) (σ++[.pack [.arr []] [v]]))
  (hK:es≠[]->∀rows us,rows.flatten=us.map .lit->rows.length=es.length->(∀e,e∈rows->e.length=sz)->us.length=es.flatten.length->K (.own (σ.length+1) es.length) (σ++[.dead,.elems sz rows,.pack es.flatten us])):ACall P B f args σ (hold K b):=by
 refine ACall.after (K0:=fun r σ'=>∃v,r=.lit v/\σ'=σ++[.pack [.arr es] [v]]) (h.go1 hb rfl fun v _=>⟨v,rfl,rfl⟩) ?_
 rintro r σ' ⟨v,rfl,rfl⟩ m w u hs hc
 have hu:=Conc.lit_inv hc
 subst hu
 have hp:(σ++[.pack [.arr es] [u]])[σ.length]? =some (.pack [.arr es] [u]):=by rw[List.getElem?_append_right (Nat.le_refl _),Nat.sub_self];rfl
 by_cases hne:es=[]
 ·have hb:=hs.blk σ.length
  rw[hp]at hb
  obtain⟨F,f1,f2,f3⟩:=hb
  subst hne
  refine⟨.arr [],_,m,h0 rfl u,hs,?_,Fr.refl m w⟩
  generalize hxs:[AV.arr []]=xs at f3
  generalize hvs:[u]=vs at f3
  cases f3 with
  |nil=>cases hxs
  |lit v h=>cases hxs
  | @emp a _ _ _ hd=>cases hvs;exact .arrNil a 0
  | @arr es0 b sz0 cap ccs ty _ _ F' _ hB hne'=>cases hxs;exact absurd rfl hne'
 ·obtain⟨rows,us,m',a1,a2,a3,a4,a5,a6,a7⟩:=hs.unpack σ.length sz hp hne hsz
  have e1:(σ++[Blk.pack [.arr es] [u]]).set σ.length .dead++[.elems sz rows,.pack es.flatten us]=σ++[.dead,.elems sz rows,.pack es.flatten us]:=by
   rw[List.set_append_right _ _ (Nat.le_refl _),Nat.sub_self];simp
  have e2:(σ++[Blk.pack [.arr es] [u]]).length=σ.length+1:=by simp
  rw[e1]at a5
  rw[e2]at a7
  exact⟨_,_,m',hK hne rows us a1 a2 a3 a4,a5,a7,a6⟩
end
end Go.Vl
