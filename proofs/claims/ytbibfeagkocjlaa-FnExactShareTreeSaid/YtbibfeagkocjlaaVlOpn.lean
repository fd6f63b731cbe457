/- The value-level layer: a slice in an element of an own slice is opened; what else the elements' pack holds is frozen. -/
import Derived.Test.YtbibfeagkocjlaaVlUnp
import Derived.Test.YtbibfeagkocjlaaVlSwap
import Derived.Test.YtbibfeagkocjlaaVlG
set_option linter.all false
namespace Go.Vl
open Go Go.RowKit
section
variable {P : Program} {B nb N : Nat}
theorem DVs.one {w : World} {ces : List (List AV)} {vs : List Go.Value} {F : List Nat} (h : DVs B w [.arr ces] vs F) (hF : F.Nodup) (sz : Nat) (hz : ∀ x, x ∈ ces → x.length = sz) :
    ∃u s F' rows us,vs=[u]∧F'.Nodup∧(∀x,s.has x→x∈F∧x∉F')∧(∀x,x∈F'→x∈F)∧DVs B w ces.flatten us F'∧rows.flatten=us.map .lit∧rows.length=ces.length∧(∀x,x∈rows→x.length=sz)∧us.length=ces.flatten.length∧rows.length≤bd B∧
      ((s=.nil∧rows=[])∨∃(b:Nat) (ccs:Array Go.Value) (ty:TypeId),s=.arr b sz rows.length∧w.heap[b]? =some (.cells ccs ty (0,0))∧rows.length*sz≤ccs.size∧∀(i:Nat) (e:List AV) (k:Nat) (x:AV),rows[i]? =some e→e[k]? =some x→∃y:Go.Value,ccs[i*sz+k]? =some y∧x=.lit y)∧
      ∀(m':Map) (l:Nat),l<m'.n→m'.f l=s→Conc B (Av m') w m' (.own l ces.length) u:=by
  generalize hxs:[AV.arr ces]=xs at h
  cases h with
  |nil=>cases hxs
  |lit v h=>cases hxs
  | @emp a _ vs0 F0 hd=>
    cases hxs
    cases hd
    exact⟨_,.nil,[],[],[],rfl,List.nodup_nil,fun x hx=>hx.elim,fun x hx=>(by cases hx),.nil,rfl,rfl,by simp,rfl,Nat.zero_le _,.inl ⟨rfl,rfl⟩,fun m' l h1 h2=>.ownNil l a h1 h2⟩
  | @arr es0 b sz0 cap ccs ty _ vs0 F' F0 hB hne hsz hcap hh hsize hx hd=>
    cases hxs
    cases hd
    have hsz':sz0=sz:=by
      obtain⟨e,r',rfl⟩:=List.exists_cons_of_ne_nil hne
      rw[←hsz e (List.mem_cons_self ..),hz e (List.mem_cons_self ..)]
    subst hsz'
    have hle:ces.length*sz0≤ccs.size:=Nat.le_trans (Nat.mul_le_mul_right _ hcap) hsize
    have hul:(ccs.toList.take (ces.length*sz0)).length=ces.length*sz0:=by
      rw[List.length_take,Nat.min_eq_left]
      rw[show ccs.toList.length=ccs.size from rfl]
      exact hle
    obtain⟨r1,r2,r3⟩:=ZBd sz0 ces.length _ hul
    generalize hus:ccs.toList.take (ces.length*sz0)=us at hx r1 r2 r3 hul
    generalize hrw:ZBw sz0 ces.length us=rows at r1 r2 r3
    simp only[List.append_nil]at hF ⊢
    rw[List.nodup_cons]at hF
    refine⟨_,.arr b sz0 ces.length,F',rows,us,rfl,hF.2,fun x hx=> ?_,fun x hx=>List.mem_cons_of_mem _ hx,hx,r3,r1,r2,by rw[hul,ZA0 hsz],by omega,.inr ⟨b,ccs,ty,by rw[r1],hh,by rw[r1];exact hle,fun i e k x hi hk=> ?_⟩,fun m' l h1 h2=> ?_⟩
    · have hx:b=x:=hx
      subst hx
      exact⟨List.mem_cons_self ..,hF.1⟩
    · have hfl:=ZAZ r2 hi hk
      rw[r3,List.getElem?_map]at hfl
      obtain⟨y,hy,rfl⟩:=Option.map_eq_some_iff.1 hfl
      rw[←hus,List.getElem?_take]at hy
      split at hy
      · exact⟨y,by simpa using hy,rfl⟩
      · cases hy
    · exact .ownArr l b sz0 ces.length cap ccs ty h1 h2 hh hsize hcap fun h0=>absurd (List.eq_nil_of_length_eq_zero h0) hne
theorem Sim.openCell {m : Map} {σ : ZA} {w : World} (hs : Sim B m σ w) (l p sz : Nat) {es rows : List (List AV)} {us : List Go.Value} (hl : σ[l]? = some (.elems sz rows)) (hp : σ[p]? = some (.pack es.flatten us))
    (hr:rows.flatten=us.map .lit) (hn:rows.length=es.length) (hsz:∀e,e∈es→e.length=sz) (d j:Nat) {e:List AV} {ces:List (List AV)} (hd:es[d]? =some e) (hj:e[j]? =some (.arr ces)) (sz2:Nat) (hz2:∀x,x∈ces→x.length=sz2):
    ∃rows2 us2 m',rows2.flatten=us2.map .lit∧rows2.length=ces.length∧(∀x,x∈rows2→x.length=sz2)∧us2.length=ces.flatten.length∧
      Sim B m' ((σ.set l (.elems sz (es.set d (e.set j (.own σ.length ces.length))))).set p .dead++[.elems sz2 rows2,.pack ces.flatten us2]) w∧Fr m w m' w:=by
  have hb:=hs.blk p
  rw[hp]at hb
  obtain⟨F,f1,f2,f3⟩:=hb
  have hlb:=hs.blk l
  rw[hl]at hlb
  obtain⟨g0,g1,g2⟩:=hlb
  have hdl:d<es.length:=(List.getElem?_eq_some_iff.1 hd).1
  have hlp:l≠p:=by rintro rfl;rw[hl]at hp;cases hp
  have hel:e.length=sz:=hsz e (List.mem_of_getElem? hd)
  have hjl:j<sz:=by rw[←hel];exact(List.getElem?_eq_some_iff.1 hj).1
  rcases g2 with⟨_,rfl⟩|⟨b,ccs,ty,g2,g3,g4,g5⟩
  · simp at hn;omega
  have hul:us.length=es.length*sz:=by have:=ZA0 g0;rw[hr,hn]at this;simpa using this
  have hcell:∀(q:Nat) (v:Go.Value),us[q]? =some v→ccs[q]? =some v:=by
    intro q v hv
    have hq:q<es.length*sz:=by rw[←hul];exact(List.getElem?_eq_some_iff.1 hv).1
    have hi:q/sz<rows.length:=by rw[hn];exact Nat.div_lt_of_lt_mul (by rw[Nat.mul_comm];exact hq)
    have hk:q%sz<sz:=Nat.mod_lt _ (by omega)
    have hrow:rows[q/sz]? =some rows[q/sz]:=List.getElem?_eq_getElem hi
    have hrl:rows[q/sz].length=sz:=g0 _ (List.getElem_mem _)
    have hc:rows[q/sz][q%sz]? =some (rows[q/sz][q%sz]'(by omega)):=List.getElem?_eq_getElem (by omega)
    have hej:q/sz*sz+q%sz=q:=by rw[Nat.mul_comm];exact Nat.div_add_mod q sz
    have hf:=ZAZ g0 hrow hc
    rw[hej,hr,List.getElem?_map,hv]at hf
    obtain⟨y,hy,hcy⟩:=g5 _ _ _ _ hrow hc
    rw[hej]at hy
    have hf2:AV.lit v=rows[q/sz][q%sz]'(by omega):=by simpa using hf
    rw[←hf2]at hcy
    rw[hy,Conc.lit_inv hcy]
  have hqe:es.flatten[d*sz+j]? =some (.arr ces):=ZAZ hsz hd hj
  obtain⟨hql,hqv⟩:=List.getElem?_eq_some_iff.1 hqe
  have hsplit:es.flatten=es.flatten.take (d*sz+j)++([.arr ces]++es.flatten.drop (d*sz+j+1)):=by
    rw[←hqv,List.singleton_append,←List.drop_eq_getElem_cons hql,List.take_append_drop]
  have hXl:(es.flatten.take (d*sz+j)).length=d*sz+j:=by rw[List.length_take];omega
  have f3':=f3
  rw[hsplit]at f3'
  obtain⟨vs1,vs2,F1,F2,hus,hFF,d1,d2⟩:=f3'.split
  obtain⟨vs3,vs4,F3,F4,rfl,rfl,d3,d4⟩:=d2.split
  subst hFF
  have hv1:vs1.length=d*sz+j:=by rw[d1.len,hXl]
  rw[List.nodup_append]at f2
  obtain⟨nd1,nd2,nd3⟩:=f2
  rw[List.nodup_append]at nd2
  obtain⟨nd4,nd5,nd6⟩:=nd2
  obtain⟨u,s,F',rows2,us2,rfl,n1,n2,n3,n4,r3,r1,r2,r4,r5,r6,r7⟩:=d3.one nd4 sz2 hz2
  have hpl:p<σ.length:=(List.getElem?_eq_some_iff.1 hp).1
  have hll:l<σ.length:=(List.getElem?_eq_some_iff.1 hl).1
  have hpn:p<m.n:=by rw[hs.n];exact hpl
  have hln:l<m.n:=by rw[hs.n];exact hll
  let m':Map:=⟨fun i=>if i=p then .dead else if i=m.n then s else if i=m.n+1 then .pack F' else m.f i,m.n+2,m.av⟩
  have ed:m'.f p=.dead:=by simp[m']
  have e0:m'.f m.n=s:=by
    have:m.n≠p:=by omega
    simp[m',this]
  have e1:m'.f (m.n+1)=.pack F':=by
    have:m.n+1≠p:=by omega
    simp[m',this]
  have eo:∀i,i≠p→i≠m.n→i≠m.n+1→m'.f i=m.f i:=fun i h1 h2 h3=>by simp[m',h1,h2,h3]
  have inF:∀x,x∈F1++(F3++F4)→(m.f p).has x:=fun x hx=>by rw[f1];exact hx
  have in3:∀x,x∈F3→(m.f p).has x:=fun x hx=>inF x (by simp[hx])
  have own:∀i x,(m'.f i).has x→(i=m.n∧s.has x)∨(i=m.n+1∧x∈F')∨(i≠p∧i≠m.n∧i≠m.n+1∧(m.f i).has x):=by
    intro i x hx
    by_cases cd:i=p
    · subst cd;rw[ed]at hx;exact hx.elim
    by_cases c0:i=m.n
    · subst c0;rw[e0]at hx;exact .inl ⟨rfl,hx⟩
    · by_cases c1:i=m.n+1
      · subst c1;rw[e1]at hx;exact .inr (.inl ⟨rfl,hx⟩)
      · rw[eo i cd c0 c1]at hx;exact .inr (.inr ⟨cd,c0,c1,hx⟩)
  have hwr:∀x,Wr m' x→Wr m x:=fun x ⟨i,hx⟩=>by
    rcases own i x hx with⟨_,q⟩|⟨_,q⟩|⟨_,_,_,q⟩
    · exact⟨p,in3 _ (n2 x q).1⟩
    · exact⟨p,in3 _ (n3 x q)⟩
    · exact⟨i,q⟩
  have frz:∀x,x∈F1++(F3++F4)→x∉F3→¬Av m' x:=by
    intro x hx h3 ha
    rcases ha with⟨i,hi⟩|ha
    · rcases own i x hi with⟨_,q⟩|⟨_,q⟩|⟨c,_,_,q⟩
      · exact h3 (n2 x q).1
      · exact h3 (n3 x q)
      · exact c (hs.inj i p x q (inF x hx))
    · exact hs.sep x ⟨p,inF x hx⟩ ha
  have hfr:Fr m w m' w:=⟨Nat.le_refl _,fun _ _ _=>rfl,fun b ccs ty _ _ hh=>⟨ccs,hh,rfl⟩,fun b hb=>.inl (hwr b hb),fun i hi=>by
      by_cases e:i=p
      · subst e;rw[ed];exact .inr (.inl rfl)
      · rw[eo i e (by omega) (by omega)];exact .inl rfl,Nat.le_add_right _ _,rfl,rfl,rfl,rfl⟩
  refine⟨rows2,us2,m',r3,r1,r2,r4,⟨?_,fun i=> ?_,fun i i' x h1 h2=> ?_,fun x hx=>hs.sep x (hwr x hx),hs.avlt,hs.tb.sub hwr⟩,hfr⟩
  · show m.n+2=_;rw[List.length_append,List.length_set,List.length_set,←hs.n];rfl
  · have hlen2:((σ.set l (.elems sz (es.set d (e.set j (.own σ.length ces.length))))).set p .dead).length=m.n:=by rw[List.length_set,List.length_set,←hs.n]
    by_cases cd:i=p
    · subst cd
      rw[ed,List.getElem?_append_left (by rw[hlen2];exact hpn),List.getElem?_set_self (by rw[List.length_set];exact hpl)]
      rfl
    by_cases c0:i=m.n
    · subst c0
      rw[e0,List.getElem?_append_right (by rw[hlen2];exact Nat.le_refl _),hlen2,Nat.sub_self]
      refine⟨r2,r5,?_⟩
      rcases r6 with q|⟨b,ccs,ty,q1,q2,q3,q4⟩
      · exact .inl q
      · refine .inr ⟨b,ccs,ZMP ty,q1,q2,q3,fun i e k x hi hk=> ?_⟩
        obtain⟨y,hy,rfl⟩:=q4 i e k x hi hk
        exact⟨y,hy,.lit y⟩
    by_cases c1:i=m.n+1
    · subst c1
      rw[e1,List.getElem?_append_right (by rw[hlen2];omega),hlen2,Nat.add_sub_cancel_left]
      exact⟨F',rfl,n1,n4⟩
    rw[eo i cd c0 c1]
    by_cases c2:i<m.n
    · rw[List.getElem?_append_left (by rw[hlen2];exact c2),List.getElem?_set_ne (Ne.symm cd)]
      by_cases cl:i=l
      · subst cl
        rw[List.getElem?_set_self hll]
        refine⟨fun x hx=> ?_,by rw[List.length_set];omega,.inr ⟨b,ccs,ty,by rw[List.length_set,←hn];exact g2,g3,by rw[List.length_set,←hn];exact g4,fun i e' k x hi hk=> ?_⟩⟩
        · rcases List.mem_or_eq_of_mem_set hx with hx|rfl
          · exact hsz x hx
          · rw[List.length_set];exact hel
        · -- a cell
          have old:es[i]? =some e'∨(i=d∧e'=e.set j (.own σ.length ces.length)):=by
            by_cases ei:d=i
            · subst ei
              rw[List.getElem?_set_self hdl]at hi
              exact .inr ⟨rfl,(Option.some.inj hi).symm⟩
            · rw[List.getElem?_set_ne ei]at hi;exact .inl hi
          have pure:∀(e0:List AV),es[i]? =some e0→e0[k]? =some x→¬(i=d∧k=j)→∃y,ccs[i*sz+k]? =some y∧Conc B (Av m') w m' x y:=by
            intro e0 he0 hk0 hne
            have hkl:k<sz:=by rw[←hsz e0 (List.mem_of_getElem? he0)];exact(List.getElem?_eq_some_iff.1 hk0).1
            have hfl:=ZAZ hsz he0 hk0
            have hqne:i*sz+k≠d*sz+j:=by
              intro heq
              have h1:(i*sz+k)/sz=i:=by rw[Nat.mul_comm,Nat.mul_add_div (by omega),Nat.div_eq_of_lt hkl];rfl
              have h2:(d*sz+j)/sz=d:=by rw[Nat.mul_comm,Nat.mul_add_div (by omega),Nat.div_eq_of_lt hjl];rfl
              rw[heq,h2]at h1
              subst h1
              exact hne ⟨rfl,by omega⟩
            rcases Nat.lt_or_ge (i*sz+k) (d*sz+j)with hlt|hge
            · have hx1:(es.flatten.take (d*sz+j))[i*sz+k]? =some x:=by rw[List.getElem?_take,if_pos hlt];exact hfl
              obtain⟨v,hv,hcv⟩:=d1.conc (W:=Av m') (fun y hy=>frz y (by simp[hy]) fun h3=>nd3 y hy y (by simp[h3]) rfl) _ x hx1
              refine⟨v,hcell _ _ ?_,hcv.shift m'⟩
              rw[hus,List.getElem?_append_left (by rw[hv1];exact hlt)];exact hv
            · have hgt:d*sz+j+1≤i*sz+k:=by omega
              have hx1:(es.flatten.drop (d*sz+j+1))[i*sz+k- (d*sz+j+1)]? =some x:=by rw[List.getElem?_drop,Nat.add_sub_cancel' hgt];exact hfl
              obtain⟨v,hv,hcv⟩:=d4.conc (W:=Av m') (fun y hy=>frz y (by simp[hy]) fun h3=>nd6 y h3 y hy rfl) _ x hx1
              refine⟨v,hcell _ _ ?_,hcv.shift m'⟩
              rw[hus,List.getElem?_append_right (by rw[hv1];exact hge),hv1,List.getElem?_append_right (by simp;omega)]
              rw[show i*sz+k- (d*sz+j) - [u].length=i*sz+k- (d*sz+j+1) by simp;omega]
              exact hv
          rcases old with old|⟨rfl,rfl⟩
          · by_cases hij:i=d∧k=j
            · obtain⟨rfl,rfl⟩:=hij
              rw[List.getElem?_set_self hdl]at hi
              obtain rfl:=Option.some.inj hi
              rw[List.getElem?_set_self (List.getElem?_eq_some_iff.1 hj).1]at hk
              obtain rfl:=Option.some.inj hk
              refine⟨u,hcell _ _ ?_,?_⟩
              · rw[hus,List.getElem?_append_right (by rw[hv1];exact Nat.le_refl _),hv1,Nat.sub_self];rfl
              · rw[←hs.n];exact r7 m' m.n (by show m.n<m.n+2;omega) e0
            · exact pure e' old hk hij
          · by_cases ek:j=k
            · subst ek
              rw[List.getElem?_set_self (List.getElem?_eq_some_iff.1 hj).1]at hk
              obtain rfl:=Option.some.inj hk
              refine⟨u,hcell _ _ ?_,?_⟩
              · rw[hus,List.getElem?_append_right (by rw[hv1];exact Nat.le_refl _),hv1,Nat.sub_self];rfl
              · rw[←hs.n];exact r7 m' m.n (by show m.n<m.n+2;omega) e0
            · rw[List.getElem?_set_ne ek]at hk
              exact pure e hd hk fun h=>ek h.2.symm
      · rw[List.getElem?_set_ne (Ne.symm cl)]
        have hb:=hs.blk i
        cases hσ:σ[i]? with
        |none=>rw[hσ]at hb;exact hb
        |some k=>
          rw[hσ]at hb
          cases k with
          |dead=>exact hb
          |pack xs vs=>exact hb
          |tcells ot cs=>
            obtain⟨b,ccs,ty,g1,g2,g3,g4⟩:=hb
            refine⟨b,ccs,ty,g1,g2,g3,fun i x hx=> ?_⟩
            obtain⟨y,hy,hc⟩:=g4 i x hx
            exact⟨y,hy,hc.mono hfr⟩
          |telems oe sz es=>
            obtain⟨g0,g0',hb⟩:=hb
            refine⟨g0,g0',?_⟩
            rcases hb with hb|⟨b,ccs,ty,g1,g2,g3,g4⟩
            · exact .inl hb
            · refine .inr ⟨b,ccs,ty,g1,g2,g3,fun i e' k x hi hk=> ?_⟩
              obtain⟨y,hy,hc⟩:=g4 i e' k x hi hk
              exact⟨y,hy,hc.mono hfr⟩
    · rw[List.getElem?_eq_none (by rw[List.length_append,hlen2];simp;omega)]
      have hb:=hs.blk i
      rw[List.getElem?_eq_none (by rw[←hs.n];omega)]at hb
      exact hb
  · have hli:∀{k x},(m.f k).has x→(m.f p).has x→k=p:=fun{k x} q1 q2=>hs.inj k p x q1 q2
    rcases own i x h1 with⟨rfl,q⟩|⟨rfl,q⟩|⟨a1,a2,a3,q⟩<;>rcases own i' x h2 with⟨rfl,q'⟩|⟨rfl,q'⟩|⟨b1,b2,b3,q'⟩
    · rfl
    · exact absurd q' (n2 x q).2
    · exact absurd (hli q' (in3 x (n2 x q).1)) b1
    · exact absurd q (n2 x q').2
    · rfl
    · exact absurd (hli q' (in3 x (n3 x q))) b1
    · exact absurd (hli q (in3 x (n2 x q').1)) a1
    · exact absurd (hli q (in3 x (n3 x q'))) a1
    · exact hs.inj i i' x q q'
theorem DVs.of_lits {w:World}{xs:List AV}{us:List Go.Value}{F:List Nat}(h:DVs B w xs us F)(hx:∀x,x∈xs→∃v,x=.lit v):us.map .lit=xs:=by
  induction h with
  |nil=>rfl
  |lit v h ih=>rw[List.map_cons,ih fun x hm=>hx x (List.mem_cons_of_mem _ hm)]
  |emp a h ih=>obtain⟨v,e⟩:=hx _ (List.mem_cons_self ..);cases e
  |arr es b sz cap ccs ty hB hne hsz hcap hh hsize hx' h ih1 ih2=>obtain⟨v,e⟩:=hx _ (List.mem_cons_self ..);cases e
theorem ZGs {α:Type}{sz:Nat}:∀{rows es:List (List α)},rows.flatten=es.flatten→rows.length=es.length→(∀e,e∈rows→e.length=sz)→(∀e,e∈es→e.length=sz)→rows=es
  | [],[],_,_,_,_=>rfl
  | [],_::_,_,h,_,_=>by simp at h
  |_::_,[],_,h,_,_=>by simp at h
  |a::r,b::s,h,hl,h1,h2=>by
    rw[List.flatten_cons,List.flatten_cons]at h
    obtain⟨e1,e2⟩:=List.append_inj h (by rw[h1 a (List.mem_cons_self ..),h2 b (List.mem_cons_self ..)])
    rw[e1,ZGs (sz:=sz) e2 (by simpa using hl) (fun e hm=>h1 e (List.mem_cons_of_mem _ hm)) (fun e hm=>h2 e (List.mem_cons_of_mem _ hm))]
def ZMu (σ:ZA)(l p:Nat)(es2:List (List AV))(ces2:List (List AV))(as:List (List AV))(us:List Go.Value):ZA:=
  (σ.set l (.elems 2 es2)).set p .dead++[.elems 3 ces2,.dead,.elems 2 as,.pack as.flatten us]
theorem Sim.openCtor {m : Map} {σ : ZA} {w : World} (hs : Sim B m σ w) (l p : Nat) {D : List Data} {rows : List (List AV)} {us : List Go.Value} (hl : σ[l]? = some (.elems 2 rows)) (hp : σ[p]? = some (.pack (D.map Data.c).flatten us))
    (hr:rows.flatten=us.map .lit) (hn:rows.length=D.length) (d:Nat) {x:Data} {c:Ctor} {cs:List Ctor} (hd:D[d]? =some x) (hx:x.ctors=c::cs):
    ∃us3 m',Sim B m' (ZMu σ l p ((D.map Data.c).set d [.lit (.string x.name),.own σ.length (cs.length+1)]) ([.lit (.string c.name),.own (σ.length+2) c.args.length,.lit (.int .i64 c.index)]::cs.map Ctor.c) (c.args.map Ty.c) us3) w∧Fr m w m' w:=by
  obtain⟨rows2,us2,m1,r1,r2,r3,r4,s1,f1⟩:=hs.openCell l p 2 hl hp hr (by simpa using hn) (fun e he=>by obtain⟨y,_,rfl⟩:=List.mem_map.1 he;rfl) d 1 (e:=x.c) (ces:=x.ctors.map Ctor.c) (by simp[hd]) rfl 3 (fun e he=>by obtain⟨y,_,rfl⟩:=List.mem_map.1 he;rfl)
  generalize hb:(σ.set l (.elems 2 ((D.map Data.c).set d (x.c.set 1 (.own σ.length (x.ctors.map Ctor.c).length))))).set p .dead=base at s1
  have hbl:base.length=σ.length:=by rw[←hb];simp
  have e1:(base++[Blk.elems 3 rows2,.pack (x.ctors.map Ctor.c).flatten us2])[σ.length]? =some (.elems 3 rows2):=by rw[List.getElem?_append_right (by omega),hbl,Nat.sub_self];rfl
  have e2:(base++[Blk.elems 3 rows2,.pack (x.ctors.map Ctor.c).flatten us2])[σ.length+1]? =some (.pack (x.ctors.map Ctor.c).flatten us2):=by rw[List.getElem?_append_right (by omega),hbl,Nat.add_sub_cancel_left];rfl
  obtain⟨rows3,us3,m2,q1,q2,q3,q4,s2,f2⟩:=s1.openCell σ.length (σ.length+1) 3 e1 e2 r1 r2 (fun e he=>by obtain⟨y,_,rfl⟩:=List.mem_map.1 he;rfl) 0 1 (e:=c.c) (ces:=c.args.map Ty.c) (by simp[hx]) rfl 2 (fun e he=>by obtain⟨y,_,rfl⟩:=List.mem_map.1 he;rfl)
  have hlen:(base++[Blk.elems 3 rows2,.pack (x.ctors.map Ctor.c).flatten us2]).length=σ.length+2:=by simp[hbl]
  rw[hlen]at s2
  have e3 : ((base ++ [Blk.elems 3 rows2, .pack (x.ctors.map Ctor.c).flatten us2]).set σ.length (.elems 3 ((x.ctors.map Ctor.c).set 0 (c.c.set 1 (.own (σ.length + 2) (c.args.map Ty.c).length))))).set (σ.length + 1) .dead =
      base++[.elems 3 ((x.ctors.map Ctor.c).set 0 (c.c.set 1 (.own (σ.length+2) (c.args.map Ty.c).length))),.dead]:=by
    rw[List.set_append_right _ _ (by omega),List.set_append_right _ _ (by omega),hbl,Nat.sub_self,Nat.add_sub_cancel_left];rfl
  rw[e3]at s2
  have hlits:∀y,y∈(c.args.map Ty.c).flatten→∃v,y=.lit v:=by
    intro y hy
    obtain⟨e,he,hy⟩:=List.mem_flatten.1 hy
    obtain⟨z,_,rfl⟩:=List.mem_map.1 he
    simp only[Ty.c_eq,List.mem_cons,List.not_mem_nil,or_false]at hy
    rcases hy with rfl|rfl<;>exact⟨_,rfl⟩
  have hpk:=s2.blk (σ.length+3)
  have e4:(base++[Blk.elems 3 ((x.ctors.map Ctor.c).set 0 (c.c.set 1 (.own (σ.length+2) (c.args.map Ty.c).length))),.dead]++[.elems 2 rows3,.pack (c.args.map Ty.c).flatten us3])[σ.length+3]? =some (.pack (c.args.map Ty.c).flatten us3):=by
    rw[List.getElem?_append_right (by simp;omega)]
    simp only[List.length_append,List.length_cons,List.length_nil,hbl]
    rw[show σ.length+3- (σ.length+(0+1+1))=1 by omega];rfl
  rw[e4]at hpk
  obtain⟨F,_,_,hdv⟩:=hpk
  have h3:rows3=c.args.map Ty.c:=ZGs (sz:=2) (by rw[q1,hdv.of_lits hlits]) q2 q3 (fun e he=>by obtain⟨y,_,rfl⟩:=List.mem_map.1 he;rfl)
  refine⟨us3,m2,?_,f1.trans f2 hs.mapOk⟩
  subst h3
  have e5 : ZMu σ l p ((D.map Data.c).set d [.lit (.string x.name), .own σ.length (cs.length + 1)]) ([.lit (.string c.name), .own (σ.length + 2) c.args.length, .lit (.int .i64 c.index)] :: cs.map Ctor.c) (c.args.map Ty.c) us3 =
      base++[.elems 3 ((x.ctors.map Ctor.c).set 0 (c.c.set 1 (.own (σ.length+2) (c.args.map Ty.c).length))),.dead]++[.elems 2 (c.args.map Ty.c),.pack (c.args.map Ty.c).flatten us3]:=by
    unfold ZMu
    rw[←hb,hx]
    simp
  rw[e5]
  exact s2
theorem Gh.sim {σ σ2:ZA}(hg:∀nb N fr,Gh B nb N ⟨fr,σ⟩ ⟨fr,σ2⟩){m:Map}{w:World}(hs:Sim B m σ w):∃m',Sim B m' σ2 w∧Fr m w m' w:=by
  obtain⟨m',h⟩:=hg m.n 0 [] m w m ⟨#[],[]⟩ w ⟨hs,⟨rfl,fun i=>.junk _⟩,rfl,Fr.refl m w,rfl,hs.mapOk⟩
  exact⟨m',h.sim,h.step⟩
def StgK (B:Nat)(K:AV→ZA→Prop)(r:AV)(σ':ZA):Prop:=∀(m:Map) (w:World),Sim B m σ' w→∃σ2 m2,K r σ2∧Sim B m2 σ2 w∧Fr m w m2 w
theorem StgK.ghost {K:AV→ZA→Prop}{b:Box K}{r:AV}{σ':ZA}(σ2:ZA)(hg:∀nb N fr,Gh B nb N ⟨fr,σ'⟩ ⟨fr,σ2⟩)(h:K r σ2):StgK B (hold K b) r σ':=fun m w hs=>by
  obtain⟨m2,h1,h2⟩:=Gh.sim hg hs
  exact⟨σ2,m2,h,h1,h2⟩
theorem StgK.opn {K : AV → ZA → Prop} {b : Box K} {r : AV} {σ' : ZA} (l p : Nat) {D : List Data} {rows : List (List AV)} {us : List Go.Value} (hl : σ'[l]? = some (.elems 2 rows)) (hp : σ'[p]? = some (.pack (D.map Data.c).flatten us))
    (hr:rows.flatten=us.map .lit) (hn:rows.length=D.length) (d:Nat) {x:Data} {c:Ctor} {cs:List Ctor} (hd:D[d]? =some x) (hx:x.ctors=c::cs)
    (h:∀us3,K r (ZMu σ' l p ((D.map Data.c).set d [.lit (.string x.name),.own σ'.length (cs.length+1)]) ([.lit (.string c.name),.own (σ'.length+2) c.args.length,.lit (.int .i64 c.index)]::cs.map Ctor.c) (c.args.map Ty.c) us3)):StgK B (hold K b) r σ':=fun m w hs=>by
  obtain⟨us3,m2,h1,h2⟩:=hs.openCtor l p hl hp hr hn d hd hx
  exact⟨_,m2,h us3,h1,h2⟩
end
attribute [simp] ZMu
end Go.Vl
