/- Part. -/
import Derived.Test.YtmjpphcloedceaaGreatVlSplit
set_option linter.all false
open List renaming getElem?_eq_getElem->zA,nodup_append->zB,mem_append_right->zC,getElem?_eq_none->zD,mem_of_getElem?->zE,getElem?_eq_some_iff->zF,flatten_cons->zG,mem_append->zH,mem_append_left->zI,getElem?_map->zJ,getElem?_append_left->zK,mem_cons_self->zL,mem_cons_of_mem->zM,length_eq_zero_iff->zN,getElem?_set_ne->zO,getElem?_append_right->zP,mem_cons->zQ,nodup_cons->zR,getElem?_cons_succ->zS,getElem?_set_self->zT,ext_getElem?->zU,length_take->zV,getElem_mem->zW,take_append_drop->zX,replicate->zY,drop_left->zZ,getElem?_take->yA,eq_nil_of_length_eq_zero->yB,nil_append->yC,append_nil->yD,take_left->yE,mem_map->yF,getElem?_toArray->yG,getElem?_of_mem->yH,length_append->yI,drop_append->yJ,map_append->yK
open Nat renaming add_sub_cancel_left->yL,mul_le_mul_right->yM,le_refl->yN,mul_comm->yO,succ_mul->yP,le_add_right->yQ,div_add_mod->yR,lt_irrefl->yS,le_trans->yT,add_comm->yU,mod_lt->yV
open Option renaming map_eq_some_iff->yW
open Array renaming getD_eq_getD_getElem?->yX,replicate->yY,getElem?_eq_some_iff->yZ,getElem?_eq_getElem->xA,getElem?_toList->xB
namespace Go.Vl
open Go Go.RowKit
open Conc renaming lit_inv->xC
open Go.Ending renaming returned->xD
section
variable {P : Program} {B nb N : Nat} {w : World}
variable {m:Map}{σ:ZE}{n sz:Nat}{es rows:List (List AV)}{us:List Value}{F:List Nat}{u:Value}
theorem ZFI {l:Nat}(h:Sim B m σ w)(hl:σ[l]? =some (.elems sz rows))(p2:F.Nodup)(p3:DVs B w es.flatten us F)(hF:∀b,b∈F->¬(m.f l).has b)(hr:rows.flatten=us.map .lit)(hn:rows.length=n)(hes:es.length=n)(hsz:∀e,e∈es->e.length=sz)(hc:Conc B (Av m) w m (.own l n) u):
  ∃F',DVs B w [.arr es] [u] F'/\F'.Nodup/\∀b,b∈F'->(m.f l).has b∨b∈F:=by
 have hb:=h.blk l
 rw[hl]at hb
 obtain⟨g0,g1,hb⟩:=hb
 rcases hb with⟨e1,rfl⟩|⟨b,ccs,ty,e1,e2,e3,e4⟩
 ·simp at hn;subst hn
  have:es=[]:=zN.1 hes
  subst this
  have hu:∃a,u=.slice a 0 0:=by
   cases hc with
   |ownOther _ _ _ _ hlt hk _=>exact absurd (hk 0 (by rw[e1];rfl)) (yS _)
   |ownNil _ a _ _=>exact⟨a,rfl⟩
   |ownArr _ b _ _ cap ccs ty _ hk=>rw[e1]at hk;cases hk
  obtain⟨a,rfl⟩:=hu
  exact⟨[],.emp a .nil,by simp,fun b hb=>by cases hb⟩
 ·have hu:∃cap,u=.slice (some ⟨b,0,none⟩) n cap/\cap*sz<=ccs.size/\n<=cap/\(n=0->cap=0):=by
   cases hc with
   |ownOther _ _ _ _ hlt hk _=>exact absurd (hk rows.length (by rw[e1];rfl)) (by omega)
   |ownNil _ a _ hk=>rw[e1]at hk;cases hk
   |ownArr _ b' sz' _ cap ccs' ty' _ hk hh hcap hlen hz=>
    rw[e1]at hk;cases hk
    rw[e2]at hh;cases hh
    exact⟨cap,rfl,hcap,hlen,hz⟩
  obtain⟨cap,rfl,hcap,hlen,hz⟩:=hu
  by_cases h0:es=[]
  ·subst h0
   have hn0:n=0:=by simpa using hes.symm
   rw[hz hn0,hn0]
   exact⟨[],.emp _ .nil,by simp,fun b hb=>by cases hb⟩
  ·have hrl:us.length=n*sz:=by
    have:=ZCR g0
    rw[hr,hn]at this;simpa using this
   have hcells:ccs.toList.take (n*sz)=us:=by
    apply zU
    intro j
    rw[yA]
    by_cases hj:j<n*sz
    ·rw[iP hj]
     have hpos:0<sz:=Nat.pos_of_ne_zero fun e=>by subst e;simp at hj
     have hi:j/sz<n:=Nat.div_lt_of_lt_mul (by rw[yO];exact hj)
     have hk:j%sz<sz:=yV _ hpos
     have hrow:rows[j/sz]? =some rows[j/sz]:=zA (by omega)
     have hrl':(rows[j/sz]'(by omega)).length=sz:=g0 _ (zW _)
     have hcell:(rows[j/sz]'(by omega))[j%sz]? =some ((rows[j/sz]'(by omega))[j%sz]'(by omega)):=zA (by omega)
     have hej:j/sz*sz+j%sz=j:=by rw[yO];exact yR j sz
     have hf:=ZB7 g0 hrow hcell
     rw[hej,hr,zJ]at hf
     obtain⟨v,hv,hv2⟩:=yW.1 hf
     obtain⟨y,hy,hcy⟩:=e4 _ _ _ _ hrow hcell
     rw[←hv2]at hcy
     rw[hej]at hy
     rw[hv,←xC hcy];simpa using hy
    ·rw[iN hj,zD (by omega)]
   have hxs:DVs B w es.flatten (ccs.toList.take (es.length*sz)) F:=by rw[hes,hcells];exact p3
   have d:=DVs.arr (B:=B) (w:=w) es b sz cap ccs ty (by omega) h0 hsz (by omega) e2 hcap hxs .nil
   rw[hes]at d
   have hbF:b∉F:=fun hbF=>hF b hbF (by rw[e1];exact rfl)
   refine⟨_,d,?_,fun b' hb'=> ?_⟩
   ·simpa using⟨hbF,p2⟩
   ·simp only[yD,zQ]at hb'
    rcases hb' with rfl|hb'
    ·exact .inl (by rw[e1];exact rfl)
    ·exact .inr hb'
variable {xs:List AV}
theorem ZEo {l l2:Nat}(h:Sim B m σ w)(hl:σ[l]? =some (.elems sz rows))(hl2:σ[l2]? =some (.pack xs us))(hx:xs=es.flatten)(hr:rows.flatten=us.map .lit)(hn:rows.length=n)(hes:es.length=n)(hsz:∀e,e∈es->e.length=sz)(hc:Conc B (Av m) w m (.own l n) u):
  ∃F,DVs B w [.arr es] [u] F/\F.Nodup/\∀b,b∈F->(m.f l).has b∨(m.f l2).has b:=by
 subst hx
 have hp:=h.blk l2
 rw[hl2]at hp
 obtain⟨F,p1,p2,p3⟩:=hp
 have hne:l≠l2:=by
  rintro rfl
  rw[hl]at hl2;cases hl2
 obtain⟨F',d1,d2,d3⟩:=ZFI h hl p2 p3 (fun b hb hb'=>hne (h.inj l l2 b hb' (by rw[p1];exact hb))) hr hn hes hsz hc
 exact⟨F',d1,d2,fun b hb=>(d3 b hb).imp id fun hb=>by rw[p1];exact hb⟩
variable {vs:List Value}
theorem ZIp (h:DVs B w xs vs F):∀es v,xs=[.arr es]->vs=[v]->ZBX v:=by
 cases h with
 |nil=>intro es v h;cases h
 |lit v h=>intro es v h;cases h
 |emp a h=>intro es v _ h;cases h;trivial
 |arr es b sz cap ccs ty hB hne hsz hcap hh hsize hx h=>intro es v _ h;cases h;trivial
variable {ess:List (List (List AV))}{hs:List Value}{Fs:List (List Nat)}
theorem ZJd (hl:hs.length=ess.length)(hl2:Fs.length=hs.length)(hd:∀(i:Nat) es (hd:Value) F,ess[i]? =some es->hs[i]? =some hd->Fs[i]? =some F->DVs B w [.arr es] [hd] F):∀h,h∈hs->ZBX h:=by
 intro h hh
 obtain⟨i,hi⟩:=yH hh
 have hlt:=(zF.1 hi).1
 exact ZIp (hd i _ h _ (zA (by omega)) hi (zA (by omega))) _ _ rfl rfl
theorem ZB1 :∀{ess:List (List (List AV))} {hs:List Value},hs.length=ess.length->(Zi ess hs).length=hs.length
 | [],[],_=>rfl
 |_::_,_::_,h=>by simp[Zi,ZB1 (by simpa using h)]
theorem ZB2 :∀{ess:List (List (List AV))} {hs:List Value} {i:Nat} {es:List (List AV)} {h:Value},ess[i]? =some es->hs[i]? =some h->(Zi ess hs)[i]? =some (.pack [.arr es] [h])
 | [],_,i,es,h,h1,_=>by simp at h1
 |_::_,[],i,es,h,_,h2=>by simp at h2
 |_::_,_::_,0,es,h,h1,h2=>by simp at h1 h2;subst h1 h2;rfl
 |e::ess,g::hs,i+1,es,h,h1,h2=>by
  have:=ZB2 (ess:=ess) (hs:=hs) (i:=i) (es:=es) (h:=h) (by simpa using h1) (by simpa using h2)
  simpa[Zi]using this
theorem ZB3 :∀{Fs:List (List Nat)},Fs.flatten.Nodup->(∀F,F∈Fs->F.Nodup)/\∀{i j:Nat} {F G:List Nat} {b:Nat},Fs[i]? =some F->Fs[j]? =some G->b∈F->b∈G->i=j
 | [],_=>⟨fun F h=>(by cases h),fun{i j F G b} h=>(by simp at h)⟩
 |A::Fs,h=>by
  rw[zG,zB]at h
  obtain⟨h1,h2,h3⟩:=h
  obtain⟨k1,k2⟩:=ZB3 h2
  refine⟨fun F hF=> ?_,fun{i j F G b} hi hj hb hb'=> ?_⟩
  ·rcases zQ.1 hF with rfl|hF
   ·exact h1
   ·exact k1 F hF
  ·cases i with
   |zero=>
    cases j with
    |zero=>rfl
    |succ j=>
     simp at hi hj;subst hi
     exact absurd rfl (h3 b hb b (List.mem_flatten.2 ⟨G,zE hj,hb'⟩))
   |succ i=>
    cases j with
    |zero=>
     simp at hi hj;subst hj
     exact absurd rfl (h3 b hb' b (List.mem_flatten.2 ⟨F,zE hi,hb⟩))
    |succ j=>have:=k2 (i:=i) (j:=j) (F:=F) (G:=G) (b:=b) (by simpa using hi) (by simpa using hj) hb hb';omega
theorem Sim.packs {w':World}(h:Sim B m σ w)(hbl:Below w.heap.size w w')(hl:hs.length=ess.length)(hl2:Fs.length=hs.length)(hd:∀(i:Nat) es (hd:Value) F,ess[i]? =some es->hs[i]? =some hd->Fs[i]? =some F->DVs B w' [.arr es] [hd] F)(hn:Fs.flatten.Nodup)(hge:∀b,b∈Fs.flatten->w.heap.size<=b):
  ∃m',Fr m w m' w'/\Sim B m' (σ++Zi ess hs) w'/\m'.av=m.av:=by
 let m':Map:=⟨fun l=>if l<m.n then m.f l else match Fs[l-m.n]? with|some F=>.pack F|none=>.dead,m.n+Fs.length,m.av⟩
 obtain⟨k1,k2⟩:=ZB3 hn
 have hold:∀l,l<m.n->m'.f l=m.f l:=fun l hl=>by simp[m',hl]
 have hnew:∀l b,¬l<m.n->(m'.f l).has b->∃F,Fs[l-m.n]? =some F/\b∈F:=by
  intro l b hl hb
  simp only[m',hl,if_false]at hb
  cases hF:Fs[l-m.n]? with
  |none=>rw[hF]at hb;exact hb.elim
  |some F=>rw[hF]at hb;exact⟨F,rfl,hb⟩
 have hlt:∀l b,(m.f l).has b->b<w.heap.size/\l<m.n:=by
  intro l b hb
  refine⟨(h.mapOk b ⟨l,hb⟩).1,?_⟩
  apply Classical.byContradiction
  intro hl'
  rw[h.dead_of_ge (by rw[←h.n];omega)]at hb;exact hb.elim
 have hf:Fr m w m' w':=⟨hbl.size,fun b hb _=>hbl.block b hb,fun b ccs ty _ _ hh=>⟨ccs,by rw[hbl.block b (yZ.1 hh).1,hh],rfl⟩,fun b ⟨l,hb⟩=>by
   by_cases e:l<m.n
   ·rw[hold l e]at hb;exact .inl ⟨l,hb⟩
   ·obtain⟨F,hF,hbF⟩:=hnew l b e hb
    exact .inr (hge b (List.mem_flatten.2 ⟨F,zE hF,hbF⟩)),
  fun l hl=>.inl (hold l hl),yQ _ _,rfl,hbl.tape,hbl.os,hbl.output⟩
 have hpl:=ZB1 hl
 refine⟨m',hf,⟨by show m.n+Fs.length=_;rw[yI,hpl,h.n,hl2],fun l=> ?_,fun l l' b h1 h2=> ?_,fun b ⟨l,hb⟩ ha=> ?_,fun b ha=>Nat.lt_of_lt_of_le (h.avlt b ha) hbl.size,TbOk.fr h hf⟩,rfl⟩
 ·by_cases e:l<m.n
  ·rw[hold l e,zK (by rw[←h.n];exact e)]
   have hb:=h.blk l
   cases hσ:σ[l]? with
   |none=>rw[hσ]at hb;exact hb
   |some k=>
    rw[hσ]at hb
    have hk:∀b,(m.f l).has b->w'.heap[b]? =w.heap[b]? :=fun b hb=>hbl.block b (hlt l b hb).1
    cases k with
    |dead=>exact hb
    |pack xs vs=>
     obtain⟨F,g1,g2,g3⟩:=hb
     exact⟨F,g1,g2,g3.keep fun b hb=>hk b (by rw[g1];exact hb)⟩
    |tcells ot cs=>
     obtain⟨b,ccs,ty,g1,g2,g3,g4⟩:=hb
     refine⟨b,ccs,ty,g1,by rw[hk b (by rw[g1];rfl)];exact g2,g3,fun i x hx=> ?_⟩
     obtain⟨y,hy,hc⟩:=g4 i x hx
     exact⟨y,hy,hc.mono hf⟩
    |telems oe sz es=>
     obtain⟨g0,g0',hb⟩:=hb
     refine⟨g0,g0',?_⟩
     rcases hb with hb|⟨b,ccs,ty,g1,g2,g3,g4⟩
     ·exact .inl hb
     ·refine .inr ⟨b,ccs,ty,g1,by rw[hk b (by rw[g1];rfl)];exact g2,g3,fun i e' k x hi hk=> ?_⟩
      obtain⟨y,hy,hc⟩:=g4 i e' k x hi hk
      exact⟨y,hy,hc.mono hf⟩
  ·rw[zP (by rw[←h.n];omega),←h.n]
   by_cases hi:l-m.n<hs.length
   ·have e1:=zA (l:=ess) (i:=l-m.n) (by omega)
    have e2:=zA (l:=hs) (i:=l-m.n) hi
    have e3:=zA (l:=Fs) (i:=l-m.n) (by omega)
    rw[ZB2 e1 e2]
    refine⟨_,by simp only[m',e,if_false,e3],k1 _ (zE e3),hd _ _ _ _ e1 e2 e3⟩
   ·rw[zD (by omega)]
    simp only[m',e,if_false]
    rw[zD (l:=Fs) (by omega)]
    rfl
 ·by_cases e:l<m.n
  ·rw[hold l e]at h1
   by_cases e':l'<m.n
   ·rw[hold l' e']at h2;exact h.inj l l' b h1 h2
   ·obtain⟨F,hF,hb⟩:=hnew l' b e' h2
    have:=hge b (List.mem_flatten.2 ⟨F,zE hF,hb⟩)
    have:=(hlt l b h1).1;omega
  ·obtain⟨F,hF,hb⟩:=hnew l b e h1
   by_cases e':l'<m.n
   ·rw[hold l' e']at h2
    have:=hge b (List.mem_flatten.2 ⟨F,zE hF,hb⟩)
    have:=(hlt l' b h2).1;omega
   ·obtain⟨G,hG,hb'⟩:=hnew l' b e' h2
    have:=k2 hF hG hb hb'
    omega
 ·by_cases e:l<m.n
  ·rw[hold l e]at hb;exact h.sep b ⟨l,hb⟩ ha
  ·obtain⟨F,hF,hbF⟩:=hnew l b e hb
   have:=hge b (List.mem_flatten.2 ⟨F,zE hF,hbF⟩)
   have:=h.avlt b ha;omega
inductive DTs (B:Nat)(w:World):List AV->List Value->List Nat->Prop
 |nil:DTs B w [] [] []
 |cell {x:AV} {v:Value} {xs:List AV} {vs:List Value} {F G:List Nat} (h:DVs B w [x] [v] F) (h':DTs B w xs vs G):DTs B w (x::xs) (v::vs) (F++G)
 |agg {cs:List AV} {us:Array Value} {xs:List AV} {vs:List Value} {F G:List Nat} (h:DVs B w cs us.toList F) (h':DTs B w xs vs G):DTs B w (.agg cs::xs) (.agg us::vs) (F++G)
def DA (B:Nat)(w:World)(r:AV)(u:Value)(F:List Nat):Prop:=
 match r with
 | .tup xs=>∃us:Array Value,u=.tuple us/\DTs B w xs us.toList F
 |r=>DTs B w [r] [u] F
def ZAN :List AV->List (List (List AV))
 | []=>[]
 | .agg cs::r=>ZQ cs++ZAN r
 |x::r=>ZQ [x]++ZAN r
def ZCi :List AV->List Value->List AV
 | [],_=>[]
 | .agg cs::r,hs=>.agg (ZAn cs (hs.take (ZQ cs).length))::ZCi r (hs.drop (ZQ cs).length)
 |x::r,hs=>ZAn [x] (hs.take (ZQ [x]).length)++ZCi r (hs.drop (ZQ [x]).length)
def ZAF :AV->List (List (List AV))
 | .tup xs=>ZAN xs
 |r=>ZAN [r]
def ZFR (r:AV)(hs:List Value):AV:=
 match r with
 | .tup xs=>.tup (ZCi xs hs)
 |r=>(ZCi [r] hs).headD .junk
def ZDV :List AV->List Value->Prop
 | [],[]=>True
 | .lit v::r,u::us=>v=u/\ZDV r us
 | .agg cs::r,.agg as::us=>cs=as.toList.map .lit/\ZDV r us
 |_,_=>False
theorem ZBm {W:Nat->Prop}{m:Map}:∀{xs:List AV} {us:List Value},ZDV xs us->us.length=xs.length/\∀(i:Nat) (x:AV),xs[i]? =some x->∃u,us[i]? =some u/\Conc B W w m x u
 | [],[],_=>⟨rfl,fun i x h=>by simp at h⟩
 | .lit v::r,u::us,h=>by
  obtain⟨rfl,h⟩:=h
  obtain⟨a1,a2⟩:=ZBm (W:=W) (m:=m) h
  refine⟨by simp[a1],fun i x hi=> ?_⟩
  cases i with
  |zero=>simp at hi;subst hi;exact⟨_,rfl,.lit _⟩
  |succ i=>exact a2 i x (by simpa using hi)
 | .agg cs::r,.agg as::us,h=>by
  obtain⟨rfl,h⟩:=h
  obtain⟨a1,a2⟩:=ZBm (W:=W) (m:=m) h
  refine⟨by simp[a1],fun i x hi=> ?_⟩
  cases i with
  |zero=>
   simp at hi;subst hi
   refine⟨_,rfl,.agg _ as (by simp) fun j y hj=> ?_⟩
   rw[zJ]at hj
   obtain⟨v,hv,rfl⟩:=yW.1 hj
   have:as.getD j undef=v:=by rw[yX,←xB,hv];rfl
   rw[this];exact .lit v
  |succ i=>exact a2 i x (by simpa using hi)
theorem DTs.parts (h:DTs B w xs vs F):∃(hs:List Value) (Fs:List (List Nat)),hs.length=(ZAN xs).length/\Fs.length=hs.length/\F=Fs.flatten/\
  ZDV (ZCi xs hs) vs/\∀(i:Nat) es (hd:Value) F,(ZAN xs)[i]? =some es->hs[i]? =some hd->Fs[i]? =some F->DVs B w [.arr es] [hd] F:=by
 have glue:∀{A1 A2:List (List (List AV))} {hs1 hs2:List Value} {Fs1 Fs2:List (List Nat)},hs1.length=A1.length->Fs1.length=hs1.length->
   (∀(i:Nat) es (hd:Value) F,A1[i]? =some es->hs1[i]? =some hd->Fs1[i]? =some F->DVs B w [.arr es] [hd] F)->(∀(i:Nat) es (hd:Value) F,A2[i]? =some es->hs2[i]? =some hd->Fs2[i]? =some F->DVs B w [.arr es] [hd] F)->
   ∀(i:Nat) es (hd:Value) F,(A1++A2)[i]? =some es->(hs1++hs2)[i]? =some hd->(Fs1++Fs2)[i]? =some F->DVs B w [.arr es] [hd] F:=by
  intro A1 A2 hs1 hs2 Fs1 Fs2 e1 e2 k1 k2 i es hd F q1 q2 q3
  by_cases hi:i<A1.length
  ·rw[zK hi]at q1
   rw[zK (by omega)]at q2 q3
   exact k1 i es hd F q1 q2 q3
  ·rw[zP (by omega)]at q1 q2 q3
   rw[show i-hs1.length=i-A1.length by omega]at q2
   rw[show i-Fs1.length=i-A1.length by omega]at q3
   exact k2 _ es hd F q1 q2 q3
 induction h with
 |nil=>exact⟨[],[],rfl,rfl,rfl,trivial,fun i es hd F h=>by simp[ZAN]at h⟩
 | @cell x v xs vs F G h h' ih=>
  obtain⟨hs2,Fs2,b1,b2,b3,b4,b5⟩:=ih
  obtain⟨hs1,Fs1,a1,a2,a3,a4,a5⟩:=h.parts
  have key:ZAN (x::xs)=ZQ [x]++ZAN xs/\ZCi (x::xs) (hs1++hs2)=ZAn [x] hs1++ZCi xs hs2:=by
   cases h<;>exact⟨rfl,by simp only[ZCi];rw[←a1,yE,zZ]⟩
  refine⟨hs1++hs2,Fs1++Fs2,by rw[key.1];simp[a1,b1],by simp[a2,b2],by rw[a3,b3];simp,?_,?_⟩
  ·rw[key.2,a4]
   exact⟨rfl,b4⟩
  ·rw[key.1];exact glue a1 a2 a5 b5
 | @agg cs us xs vs F G h h' ih=>
  obtain⟨hs2,Fs2,b1,b2,b3,b4,b5⟩:=ih
  obtain⟨hs1,Fs1,a1,a2,a3,a4,a5⟩:=h.parts
  refine⟨hs1++hs2,Fs1++Fs2,by simp[ZAN,a1,b1],by simp[a2,b2],by rw[a3,b3];simp,?_,?_⟩
  ·simp only[ZCi]
   rw[←a1,yE,zZ,a4]
   exact⟨rfl,b4⟩
  ·exact glue a1 a2 a5 b5
def FCall (P:Program)(B:Nat)(f:FuncId)(args:List AV)(r:AV):Prop:=
 Ent P f/\∀(av:Nat->Prop) w vs,ZPt B av w->RelL B av M0 w args vs->
  Calls P f vs w fun e w'=>∃u F,e=.returned u/\DA B w' r u F/\F.Nodup/\(∀b,b∈F->w.heap.size<=b)/\Below w.heap.size w w'
variable {f:FuncId}{args args':List AV}{K:AV->ZE->Prop}{b:Box K}
theorem FCall.goS {r:AV}(h:FCall P B f args' r)(hb:∀(m:Map) (w:World) (us:Nat->Value),Sim B m σ w->(∀(i:Nat) (x:AV),args[i]? =some x->Conc B (Av m) w m x (us i))->args.length=args'.length/\∀(i:Nat) (y:AV),args'[i]? =some y->Conc B m.av w M0 y (us i))(hK:∀hs:List Value,hs.length=(ZAF r).length->(∀h,h∈hs->ZBX h)->K (ZFR r hs) (σ++Zi (ZAF r) hs)):ACall P B f args σ (hold K b):=by
 refine⟨h.1,fun m w vs hs hv=> ?_⟩
 obtain⟨a1,a2⟩:=hb m w (fun i=>vs.getD i undef) hs hv.2
 refine(h.2 m.av w vs ⟨hs.avlt,hs.tb.w⟩ ⟨by rw[hv.1,a1],a2⟩).mono ?_
 rintro e w' ⟨u,F,rfl,hd,hn,hge,hbl⟩
 have fin:∀{xs:List AV} {vs:List Value},DTs B w' xs vs F->∃(hs:List Value) (m':Map),hs.length=(ZAN xs).length/\(∀h,h∈hs->ZBX h)/\ZDV (ZCi xs hs) vs/\Fr m w m' w'/\Sim B m' (σ++Zi (ZAN xs) hs) w':=by
  intro xs vs hd
  obtain⟨hs',Fs,p1,p2,rfl,p4,p5⟩:=hd.parts
  obtain⟨m',q1,q2,_⟩:=hs.packs hbl p1 p2 p5 hn hge
  exact⟨hs',m',p1,ZJd p1 p2 p5,p4,q1,q2⟩
 by_cases ht:∃xs,r=.tup xs
 ·obtain⟨xs,rfl⟩:=ht
  obtain⟨us,rfl,hd⟩:=hd
  obtain⟨hs',m',p1,p0,p2,p3,p4⟩:=fin hd
  refine⟨_,_,_,m',rfl,hK hs' p1 p0,p4,?_,p3⟩
  obtain⟨c1,c2⟩:=ZBm (B:=B) (w:=w') (W:=Av m') (m:=m') p2
  refine .tup _ us (by simpa using c1) fun i x hi=> ?_
  obtain⟨u,hu,hc⟩:=c2 i x hi
  rw[yX,←xB,hu];exact hc
 ·have hd:DTs B w' [r] [u] F:=by cases r<;>first|exact hd|exact absurd ⟨_,rfl⟩ ht
  obtain⟨hs',m',p1,p0,p2,p3,p4⟩:=fin hd
  have e1:ZAF r=ZAN [r]:=by cases r<;>first|rfl|exact absurd ⟨_,rfl⟩ ht
  have e2:ZFR r hs'=(ZCi [r] hs').headD .junk:=by cases r<;>first|rfl|exact absurd ⟨_,rfl⟩ ht
  have hK':=hK hs' (by rw[e1];exact p1) p0
  rw[e1,e2]at hK'
  refine⟨_,_,_,m',rfl,hK',p4,?_,p3⟩
  obtain⟨c1,c2⟩:=ZBm (B:=B) (w:=w') (W:=Av m') (m:=m') p2
  cases hl:ZCi [r] hs' with
  |nil=>rw[hl]at c1;simp at c1
  |cons x xs=>
   rw[hl]at c2
   obtain⟨u',hu,hc⟩:=c2 0 x rfl
   simp at hu;subst hu;exact hc
inductive CP (σ:ZE):List AV->List Value->List Nat->Prop
 |nil:CP σ [] [] []
 |lit (v:Value) {ys:List AV} {vs:List Value} {ids:List Nat} (h:CP σ ys vs ids):CP σ (.lit v::ys) (v::vs) ids
 |nilS (a:Option Addr) (cap:Nat) {ys:List AV} {vs:List Value} {ids:List Nat} (h:CP σ ys vs ids):CP σ (.arr []::ys) (.slice a 0 0::vs) ids
 |pk (l:Nat) {es:List (List AV)} {v:Value} {ys:List AV} {vs:List Value} {ids:List Nat} (h1:σ[l]? =some (.pack [.arr es] [v])) (h:CP σ ys vs ids):CP σ (.arr es::ys) (v::vs) (l::ids)
 |blk (l:Nat) {xs:List AV} {us:List Value} {ys:List AV} {vs:List Value} {ids:List Nat} (h1:σ[l]? =some (.pack xs us)) (h:CP σ ys vs ids):CP σ (xs++ys) (us++vs) (l::ids)
theorem FCall.go {r:AV}(h:FCall P B f args' r)(hb:brw.brws σ args args')(hK:∀hs:List Value,hs.length=(ZAF r).length->(∀h,h∈hs->ZBX h)->K (ZFR r hs) (σ++Zi (ZAF r) hs)):ACall P B f args σ (hold K b):=h.goS (fun _ _ us hs hv=>ZAi hs args args' us hv hb) hK
variable {ys:List AV}{ids:List Nat}
theorem CP.packs (h:CP σ ys vs ids):∀l,l∈ids->∃xs us,σ[l]? =some (.pack xs us):=by
 induction h with
 |nil=>intro l hl;cases hl
 |lit v h ih=>exact ih
 |nilS a cap h ih=>exact ih
 |pk l h1 h ih=>
  intro k hk
  rcases zQ.1 hk with rfl|hk
  ·exact⟨_,_,h1⟩
  ·exact ih k hk
 |blk l h1 h ih=>
  intro k hk
  rcases zQ.1 hk with rfl|hk
  ·exact⟨_,_,h1⟩
  ·exact ih k hk
theorem CP.sound (h:Sim B m σ w)(hd:CP σ ys vs ids):ids.Nodup->
  ∃F,DVs B w ys vs F/\F.Nodup/\∀b,b∈F->∃l,l∈ids/\(m.f l).has b:=by
 induction hd with
 |nil=>intro _;exact⟨[],.nil,by simp,fun b hb=>by cases hb⟩
 |lit v _ ih=>
  intro hn
  obtain⟨F,d1,d2,d3⟩:=ih hn
  exact⟨F,.lit v d1,d2,d3⟩
 |nilS a cap _ ih=>
  intro hn
  obtain⟨F,d1,d2,d3⟩:=ih hn
  exact⟨F,.emp a d1,d2,d3⟩
 | @pk l es v ys vs ids h1 _ ih=>
  intro hn
  rw[zR]at hn
  obtain⟨G,d1,d2,d3⟩:=ih hn.2
  have hp:=h.blk l
  rw[h1]at hp
  obtain⟨F,p1,p2,p3⟩:=hp
  refine⟨F++G,p3.append d1,?_,fun b hb=> ?_⟩
  ·rw[zB]
   refine⟨p2,d2,fun a ha c hc e=> ?_⟩
   subst e
   obtain⟨l',hl',hb'⟩:=d3 a hc
   have:=h.inj l l' a (by rw[p1];exact ha) hb'
   subst this
   exact hn.1 hl'
  ·rcases zH.1 hb with hb|hb
   ·exact⟨l,zL ..,by rw[p1];exact hb⟩
   ·obtain⟨l',hl',hb'⟩:=d3 b hb
    exact⟨l',zM _ hl',hb'⟩
 | @blk l xs us ys vs ids h1 _ ih=>
  intro hn
  rw[zR]at hn
  obtain⟨G,d1,d2,d3⟩:=ih hn.2
  have hp:=h.blk l
  rw[h1]at hp
  obtain⟨F,p1,p2,p3⟩:=hp
  refine⟨F++G,p3.append d1,?_,fun b hb=> ?_⟩
  ·rw[zB]
   refine⟨p2,d2,fun a ha c hc e=> ?_⟩
   subst e
   obtain⟨l',hl',hb'⟩:=d3 a hc
   have:=h.inj l l' a (by rw[p1];exact ha) hb'
   subst this
   exact hn.1 hl'
  ·rcases zH.1 hb with hb|hb
   ·exact⟨l,zL ..,by rw[p1];exact hb⟩
   ·obtain⟨l',hl',hb'⟩:=d3 b hb
    exact⟨l',zM _ hl',hb'⟩
inductive CD (σ:ZE):List AV->List AV->List Nat->Prop
 |nil:CD σ [] [] []
 |lit (v:Value) {xs ys:List AV} {ids:List Nat} (h:CD σ xs ys ids):CD σ (.lit v::xs) (.lit v::ys) ids
 |nilS (a:Option Addr) (cap:Nat) {xs ys:List AV} {ids:List Nat} (h:CD σ xs ys ids):CD σ (.lit (.slice a 0 0)::xs) (.arr []::ys) ids
 |own (l l2 n sz:Nat) {es rows:List (List AV)} {zs:List AV} {us:List Value} {xs ys:List AV} {ids:List Nat} (h1:σ[l]? =some (.elems sz rows)) (h2:σ[l2]? =some (.pack zs us)) (h3:zs=es.flatten) (h4:rows.flatten=us.map .lit)
   (h5:rows.length=n) (h6:es.length=n) (h7:∀e,e∈es->e.length=sz) (h:CD σ xs ys ids):CD σ (.own l n::xs) (.arr es::ys) (l::l2::ids)
 |ownL (l n sz:Nat) {es:List (List AV)} {us:List Value} {xs ys:List AV} {ids:List Nat} (h1:σ[l]? =some (.elems sz es)) (h4:es.flatten=us.map .lit) (h5:es.length=n) (h:CD σ xs ys ids):CD σ (.own l n::xs) (.arr es::ys) (l::ids)
 |pk (l:Nat) {es:List (List AV)} {v:Value} {xs ys:List AV} {ids:List Nat} (h1:σ[l]? =some (.pack [.arr es] [v])) (h:CD σ xs ys ids):CD σ (.lit v::xs) (.arr es::ys) (l::ids)
 |ownP (l n sz:Nat) {es rows:List (List AV)} {us:List Value} {L:List Nat} {xs ys:List AV} {ids:List Nat} (h1:σ[l]? =some (.elems sz rows)) {zs:List AV} (hx:es.flatten=zs) (h2:CP σ zs us L) (h4:rows.flatten=us.map .lit)
   (h5:rows.length=n) (h6:es.length=n) (h7:∀e,e∈es->e.length=sz) (h:CD σ xs ys ids):CD σ (.own l n::xs) (.arr es::ys) (l::L++ids)
theorem CD.ownE (l n sz:Nat)(h1:σ[l]? =some (.elems sz es))(h4:∃us:List Value,es.flatten=us.map .lit)(h5:es.length=n)(h:CD σ xs ys ids):CD σ (.own l n::xs) (.arr es::ys) (l::ids):=by
 obtain⟨us,h4⟩:=h4
 exact .ownL l n sz h1 h4 h5 h
theorem DVs.lits :∀(us:List Value),DVs B w (us.map .lit) us []
 | []=>.nil
 |u::us=>.lit u (DVs.lits us)
theorem ZKS {l:Nat}(h:Sim B m σ w)(hl:σ[l]? =some (.elems sz es))(hr:es.flatten=us.map .lit)(hn:es.length=n)(hc:Conc B (Av m) w m (.own l n) u):
  ∃F,DVs B w [.arr es] [u] F/\F.Nodup/\∀b,b∈F->(m.f l).has b:=by
 have hb:=h.blk l
 rw[hl]at hb
 obtain⟨g0,g1,hb⟩:=hb
 rcases hb with⟨e1,rfl⟩|⟨b,ccs,ty,e1,e2,e3,e4⟩
 ·simp at hn;subst hn
  have hu:∃a,u=.slice a 0 0:=by
   cases hc with
   |ownOther _ _ _ _ hlt hk _=>exact absurd (hk 0 (by rw[e1];rfl)) (yS _)
   |ownNil _ a _ _=>exact⟨a,rfl⟩
   |ownArr _ b _ _ cap ccs ty _ hk=>rw[e1]at hk;cases hk
  obtain⟨a,rfl⟩:=hu
  exact⟨[],.emp a .nil,by simp,fun b hb=>by cases hb⟩
 ·have hu:∃cap,u=.slice (some ⟨b,0,none⟩) n cap/\cap*sz<=ccs.size/\n<=cap/\(n=0->cap=0):=by
   cases hc with
   |ownOther _ _ _ _ hlt hk _=>exact absurd (hk es.length (by rw[e1];rfl)) (by omega)
   |ownNil _ a _ hk=>rw[e1]at hk;cases hk
   |ownArr _ b' sz' _ cap ccs' ty' _ hk hh hcap hlen hz=>
    rw[e1]at hk;cases hk
    rw[e2]at hh;cases hh
    exact⟨cap,rfl,hcap,hlen,hz⟩
  obtain⟨cap,rfl,hcap,hlen,hz⟩:=hu
  by_cases h0:es=[]
  ·subst h0
   have hn0:n=0:=by simpa using hn.symm
   rw[hz hn0,hn0]
   exact⟨[],.emp _ .nil,by simp,fun b hb=>by cases hb⟩
  ·have hrl:us.length=n*sz:=by
    have:=ZCR g0
    rw[hr,hn]at this;simpa using this
   have hcells:ccs.toList.take (n*sz)=us:=by
    apply zU
    intro j
    rw[yA]
    by_cases hj:j<n*sz
    ·rw[iP hj]
     have hpos:0<sz:=Nat.pos_of_ne_zero fun e=>by subst e;simp at hj
     have hi:j/sz<n:=Nat.div_lt_of_lt_mul (by rw[yO];exact hj)
     have hk:j%sz<sz:=yV _ hpos
     have hrow:es[j/sz]? =some es[j/sz]:=zA (by omega)
     have hrl':(es[j/sz]'(by omega)).length=sz:=g0 _ (zW _)
     have hcell:(es[j/sz]'(by omega))[j%sz]? =some ((es[j/sz]'(by omega))[j%sz]'(by omega)):=zA (by omega)
     have hej:j/sz*sz+j%sz=j:=by rw[yO];exact yR j sz
     have hf:=ZB7 g0 hrow hcell
     rw[hej,hr,zJ]at hf
     obtain⟨v,hv,hv2⟩:=yW.1 hf
     obtain⟨y,hy,hcy⟩:=e4 _ _ _ _ hrow hcell
     rw[←hv2]at hcy
     rw[hej]at hy
     rw[hv,←xC hcy];simpa using hy
    ·rw[iN hj,zD (by omega)]
   have hxs:DVs B w es.flatten (ccs.toList.take (es.length*sz)) []:=by rw[hn,hcells,hr];exact DVs.lits us
   have d:=DVs.arr (B:=B) (w:=w) es b sz cap ccs ty g1 h0 g0 (by omega) e2 hcap hxs .nil
   rw[hn]at d
   refine⟨_,d,by simp,fun b' hb'=> ?_⟩
   simp at hb';subst hb'
   rw[e1];exact rfl
theorem CD.sound (h:Sim B m σ w)(hd:CD σ xs ys ids):ids.Nodup->∀us:List Value,us.length=xs.length->(∀(i:Nat) (x:AV),xs[i]? =some x->∃u,us[i]? =some u/\Conc B (Av m) w m x u)->
  ∃F,DVs B w ys us F/\F.Nodup/\∀b,b∈F->∃l,l∈ids/\(m.f l).has b:=by
 have join:∀{y:AV} {u:Value} {ys:List AV} {us:List Value} {F G:List Nat} {L ids:List Nat},DVs B w [y] [u] F->F.Nodup->(∀b,b∈F->∃l,l∈L/\(m.f l).has b)->DVs B w ys us G->G.Nodup->(∀b,b∈G->∃l,l∈ids/\(m.f l).has b)->
   (L++ids).Nodup->∃F,DVs B w (y::ys) (u::us) F/\F.Nodup/\∀b,b∈F->∃l,l∈L++ids/\(m.f l).has b:=by
  intro y u ys us F G L ids h1 h2 h3 h4 h5 h6 hn
  refine⟨F++G,h1.append h4,?_,fun b hb=> ?_⟩
  ·rw[zB]at hn ⊢
   refine⟨h2,h5,fun a ha c hc e=> ?_⟩
   subst e
   obtain⟨l,hl,hb⟩:=h3 a ha
   obtain⟨l',hl',hb'⟩:=h6 a hc
   exact hn.2.2 l hl l' hl' (h.inj l l' a hb hb')
  ·rcases zH.1 hb with hb|hb
   ·obtain⟨l,hl,hb⟩:=h3 b hb
    exact⟨l,zI _ hl,hb⟩
   ·obtain⟨l,hl,hb⟩:=h6 b hb
    exact⟨l,zC _ hl,hb⟩
 have tl:∀{x:AV} {xs:List AV} {us:List Value},us.length=(x::xs).length->(∀(i:Nat) (y:AV),(x::xs)[i]? =some y->∃u,us[i]? =some u/\Conc B (Av m) w m y u)->
   ∃u us',us=u::us'/\Conc B (Av m) w m x u/\us'.length=xs.length/\∀(i:Nat) (y:AV),xs[i]? =some y->∃u,us'[i]? =some u/\Conc B (Av m) w m y u:=by
  intro x xs us hl hc
  cases us with
  |nil=>simp at hl
  |cons u us=>
   obtain⟨u',hu,hcu⟩:=hc 0 x rfl
   simp at hu;subst hu
   exact⟨u,us,rfl,hcu,by simpa using hl,fun i y hi=>by simpa using hc (i+1) y (by simpa using hi)⟩
 induction hd with
 |nil=>
  intro _ us hl _
  have:us=[]:=zN.1 (by simpa using hl)
  subst this
  exact⟨[],.nil,by simp,fun b hb=>by cases hb⟩
 | @lit v xs ys ids _ ih=>
  intro hn us hl hc
  obtain⟨u,us',rfl,hcu,hl',hc'⟩:=tl hl hc
  obtain⟨F,d1,d2,d3⟩:=ih hn us' hl' hc'
  rw[xC hcu]
  exact⟨F,.lit v d1,d2,d3⟩
 | @nilS a cap xs ys ids _ ih=>
  intro hn us hl hc
  obtain⟨u,us',rfl,hcu,hl',hc'⟩:=tl hl hc
  obtain⟨F,d1,d2,d3⟩:=ih hn us' hl' hc'
  rw[xC hcu]
  exact⟨F,.emp a d1,d2,d3⟩
 | @own l l2 n sz es rows zs vs xs ys ids h1 h2 h3 h4 h5 h6 h7 _ ih=>
  intro hn us hl hc
  obtain⟨u,us',rfl,hcu,hl',hc'⟩:=tl hl hc
  obtain⟨G,d1,d2,d3⟩:=ih (by simp at hn;exact hn.2.2) us' hl' hc'
  obtain⟨F,f1,f2,f3⟩:=ZEo h h1 h2 h3 h4 h5 h6 h7 hcu
  exact join (L:=[l,l2]) f1 f2 (fun b hb=>(f3 b hb).elim (fun hb=>⟨l,by simp,hb⟩) (fun hb=>⟨l2,by simp,hb⟩)) d1 d2 d3 hn
 | @ownL l n sz es vs xs ys ids h1 h4 h5 _ ih=>
  intro hn us hl hc
  obtain⟨u,us',rfl,hcu,hl',hc'⟩:=tl hl hc
  obtain⟨G,d1,d2,d3⟩:=ih (by simp at hn;exact hn.2) us' hl' hc'
  obtain⟨F,f1,f2,f3⟩:=ZKS h h1 h4 h5 hcu
  exact join (L:=[l]) f1 f2 (fun b hb=>⟨l,by simp,f3 b hb⟩) d1 d2 d3 hn
 | @ownP l n sz es rows vs L xs ys ids h1 zs hx h2 h4 h5 h6 h7 _ ih=>
  subst hx
  intro hn us hl hc
  obtain⟨u,us',rfl,hcu,hl',hc'⟩:=tl hl hc
  have hn':(l::L).Nodup/\ids.Nodup:=by
   have:=zB.1 (show((l::L)++ids).Nodup from hn)
   exact⟨this.1,this.2.1⟩
  obtain⟨G,d1,d2,d3⟩:=ih hn'.2 us' hl' hc'
  obtain⟨H,e1,e2,e3⟩:=h2.sound h (zR.1 hn'.1).2
  obtain⟨F,f1,f2,f3⟩:=ZFI h h1 e2 e1 (fun b hb hb'=>by
   obtain⟨l',hl',hb''⟩:=e3 b hb
   have:=h.inj l l' b hb' hb''
   subst this
   exact(zR.1 hn'.1).1 hl') h4 h5 h6 h7 hcu
  exact join (L:=l::L) f1 f2 (fun b hb=>(f3 b hb).elim (fun hb=>⟨l,by simp,hb⟩) (fun hb=>by
   obtain⟨l',hl',hb'⟩:=e3 b hb
   exact⟨l',zM _ hl',hb'⟩)) d1 d2 d3 hn
 | @pk l es v xs ys ids h1 _ ih=>
  intro hn us hl hc
  obtain⟨u,us',rfl,hcu,hl',hc'⟩:=tl hl hc
  obtain⟨G,d1,d2,d3⟩:=ih (by simp at hn;exact hn.2) us' hl' hc'
  rw[xC hcu]
  have hp:=h.blk l
  rw[h1]at hp
  obtain⟨F,p1,p2,p3⟩:=hp
  exact join (L:=[l]) p3 p2 (fun b hb=>⟨l,by simp,by rw[p1];exact hb⟩) d1 d2 d3 hn
inductive CT (σ:ZE):List AV->List AV->List Nat->Prop
 |nil:CT σ [] [] []
 |cell {x y:AV} {xs ys:List AV} {L ids:List Nat} (h:CD σ [x] [y] L) (h':CT σ xs ys ids):CT σ (x::xs) (y::ys) (L++ids)
 |agg {cs ds:List AV} {xs ys:List AV} {L ids:List Nat} (h:CD σ cs ds L) (h':CT σ xs ys ids):CT σ (.agg cs::xs) (.agg ds::ys) (L++ids)
theorem CT.sound (h:Sim B m σ w)(hd:CT σ xs ys ids):ids.Nodup->∀us:List Value,us.length=xs.length->(∀(i:Nat) (x:AV),xs[i]? =some x->∃u,us[i]? =some u/\Conc B (Av m) w m x u)->
  ∃F,DTs B w ys us F/\F.Nodup/\∀b,b∈F->∃l,l∈ids/\(m.f l).has b:=by
 have join:∀{F G:List Nat} {L ids:List Nat},F.Nodup->(∀b,b∈F->∃l,l∈L/\(m.f l).has b)->G.Nodup->(∀b,b∈G->∃l,l∈ids/\(m.f l).has b)->
   (L++ids).Nodup->(F++G).Nodup/\∀b,b∈F++G->∃l,l∈L++ids/\(m.f l).has b:=by
  intro F G L ids h2 h3 h5 h6 hn
  refine⟨?_,fun b hb=> ?_⟩
  ·rw[zB]at hn ⊢
   refine⟨h2,h5,fun a ha c hc e=> ?_⟩
   subst e
   obtain⟨l,hl,hb⟩:=h3 a ha
   obtain⟨l',hl',hb'⟩:=h6 a hc
   exact hn.2.2 l hl l' hl' (h.inj l l' a hb hb')
  ·rcases zH.1 hb with hb|hb
   ·obtain⟨l,hl,hb⟩:=h3 b hb
    exact⟨l,zI _ hl,hb⟩
   ·obtain⟨l,hl,hb⟩:=h6 b hb
    exact⟨l,zC _ hl,hb⟩
 have tl:∀{x:AV} {xs:List AV} {us:List Value},us.length=(x::xs).length->(∀(i:Nat) (y:AV),(x::xs)[i]? =some y->∃u,us[i]? =some u/\Conc B (Av m) w m y u)->
   ∃u us',us=u::us'/\Conc B (Av m) w m x u/\us'.length=xs.length/\∀(i:Nat) (y:AV),xs[i]? =some y->∃u,us'[i]? =some u/\Conc B (Av m) w m y u:=by
  intro x xs us hl hc
  cases us with
  |nil=>simp at hl
  |cons u us=>
   obtain⟨u',hu,hcu⟩:=hc 0 x rfl
   simp at hu;subst hu
   exact⟨u,us,rfl,hcu,by simpa using hl,fun i y hi=>by simpa using hc (i+1) y (by simpa using hi)⟩
 induction hd with
 |nil=>
  intro _ us hl _
  have:us=[]:=zN.1 (by simpa using hl)
  subst this
  exact⟨[],.nil,by simp,fun b hb=>by cases hb⟩
 | @cell x y xs ys L ids hcd _ ih=>
  intro hn us hl hc
  obtain⟨u,us',rfl,hcu,hl',hc'⟩:=tl hl hc
  obtain⟨G,d1,d2,d3⟩:=ih (zB.1 hn).2.1 us' hl' hc'
  obtain⟨F,f1,f2,f3⟩:=hcd.sound h (zB.1 hn).1 [u] rfl (fun i z hi=>by
   cases i with
   |zero=>simp at hi;subst hi;exact⟨u,rfl,hcu⟩
   |succ i=>simp at hi)
  obtain⟨j1,j2⟩:=join f2 f3 d2 d3 hn
  exact⟨F++G,.cell f1 d1,j1,j2⟩
 | @agg cs ds xs ys L ids hcd _ ih=>
  intro hn us hl hc
  obtain⟨u,us',rfl,hcu,hl',hc'⟩:=tl hl hc
  obtain⟨G,d1,d2,d3⟩:=ih (zB.1 hn).2.1 us' hl' hc'
  cases hcu with
  |agg _ as hlen hx=>
   obtain⟨F,f1,f2,f3⟩:=hcd.sound h (zB.1 hn).1 as.toList (by simpa using hlen) (fun i z hi=>by
    refine⟨as.getD i undef,?_,hx i z hi⟩
    have hi':i<as.size:=by rw[hlen];exact(zF.1 hi).1
    simp[yX,hi'])
   obtain⟨j1,j2⟩:=join f2 f3 d2 d3 hn
   exact⟨F++G,.agg f1 d1,j1,j2⟩
def FD (σ:ZE)(x r:AV):Prop:=
 ∃ids:List Nat,ids.Nodup/\match x,r with
 | .tup xs,.tup ys=>CT σ xs ys ids
 | .tup _,_=>False
 |_,.tup _=>False
 |x,r=>CT σ [x] [r] ids
def ZJ6 (P:Program)(fn:Func)(r:AV)(e:Exit)(st:ASt):Prop:=
 match e with
 | .normal| .ret=>ZBp P st.σ st.fr fn.results.toList (hold (fun xs=>FD st.σ (pack xs) r) .mk)
 |_=>False
variable {fn:Func}{st:ASt}
theorem ZNk {r:AV}:ZJ6 P fn r .ret st=(ZBp P st.σ st.fr fn.results.toList (hold (fun xs=>FD st.σ (pack xs) r) .mk)):=rfl
theorem ZJE {r:AV}:ZJ6 P fn r .normal st=(ZBp P st.σ st.fr fn.results.toList (hold (fun xs=>FD st.σ (pack xs) r) .mk)):=rfl
variable {c:Code}
theorem FCall.enterG {r:AV}{st0:ASt}(hf:P.funcs[f]? =some fn)(hn:(fn.name== "runtime.NumGoroutine")=false)(hb:fn.body=some c)(hN:fn.ntmps=N)(hargs:args.length<=N)(hg:Gh B 0 N ⟨ZBR 0 args,[]⟩ st0)(h:awp P B 0 N c st0 (hold (ZJ6 P fn r) .mk)):FCall P B f args r:=by
 refine⟨⟨fn,hf,hn,by rw[hb];rfl⟩,fun av w vs hav hv=>calls_of_wp hf hb ?_⟩
 subst hN
 let m0:Map:=⟨fun _=>.dead,0,av⟩
 have hWr:∀b,¬Wr m0 b:=by rintro b ⟨l,hl⟩;simp[m0,MS.has]at hl
 have hAv:∀b,Av m0 b->av b:=fun b hb=>hb.resolve_left (hWr b)
 have hsim:Sim B m0 [] w:=⟨rfl,fun l=>by simp[ZAc,m0],fun l l' b hl=>by simp[m0,MS.has]at hl,fun b hb=>absurd hb (hWr b),hav.1,hav.2.ok fun b hb=>absurd hb (hWr b)⟩
 have hv':RelL B (Av m0) m0 w args vs:=⟨hv.1,fun i x hi=>((hv.2 i x hi).weaken hAv).shift m0⟩
 have hsim0:ASim B 0 fn.ntmps m0 w ⟨ZBR 0 args,[]⟩ m0 ⟨vs++yY (fn.ntmps-vs.size) undef,[]⟩ w:=
  ⟨hsim,ZAU hv' hargs,rfl,Fr.refl m0 w,rfl,fun b hb=>absurd hb (hWr b)⟩
 obtain⟨m1,hsim1⟩:=hg _ _ _ _ _ hsim0
 refine wp_mono (ZY c _ _ h m0 w m1 _ w hsim1) ?_
 rintro e a' w' ⟨st',m',hq,hs⟩
 have fin:∀(hq:ZBp P st'.σ st'.fr fn.results.toList fun xs=>FD st'.σ (pack xs) r),
   a'.defers=[]/\∃v,(results fn a'.tmps).run P w'=.ok v w'/\∃u F,xD v=.returned u/\DA B w' r u F/\F.Nodup/\(∀b,b∈F->w.heap.size<=b)/\Below w.heap.size w w':=by
  intro hq
  obtain⟨xs,u,⟨ids,hnd,hK⟩,hrun,hc⟩:=ZU hs hq
  have hfr:=hs.step
  have young:∀(F:List Nat),(∀b,b∈F->∃l,l∈ids/\(m'.f l).has b)->∀b,b∈F->w.heap.size<=b:=fun F hF b hb=>by
   obtain⟨l,_,hl⟩:=hF b hb
   exact(hfr.fresh b ⟨l,hl⟩).resolve_left (hWr b)
  have below:Below w.heap.size w w':=⟨hfr.os,hfr.tape,hfr.output,hfr.size,fun b hb=>hfr.keep b hb (hWr b)⟩
  have one:∀{x r:AV},CT st'.σ [x] [r] ids->Conc B (Av m') w' m' x u->∃F,DTs B w' [r] [u] F/\F.Nodup/\∀b,b∈F->w.heap.size<=b:=by
   intro x r hct hc
   obtain⟨F,d1,d2,d3⟩:=hct.sound hs.sim hnd [u] rfl (fun i z hi=>by
    cases i with
    |zero=>simp at hi;subst hi;exact⟨u,rfl,hc⟩
    |succ i=>simp at hi)
   exact⟨F,d1,d2,young F d3⟩
  refine⟨hs.df,u,hrun,?_⟩
  generalize hx:pack xs=x at hK hc
  by_cases ht:∃ys,r=.tup ys
  ·obtain⟨ys,rfl⟩:=ht
   cases x with
   |tup zs=>
    cases hc with
    |tup _ us hlen hxx=>
     obtain⟨F,d1,d2,d3⟩:=CT.sound hs.sim hK hnd us.toList (by simpa using hlen) (fun i z hi=>by
      refine⟨us.getD i undef,?_,hxx i z hi⟩
      have hi':i<us.size:=by rw[hlen];exact(zF.1 hi).1
      simp[yX,hi'])
     exact⟨_,F,rfl,⟨us,rfl,d1⟩,d2,young F d3,below⟩
   |_=>exact hK.elim
  ·have hK':CT st'.σ [x] [r] ids:=by
    cases x<;>cases r<;>first|exact hK|exact hK.elim|exact absurd ⟨_,rfl⟩ ht
   obtain⟨F,d1,d2,d3⟩:=one hK' hc
   refine⟨u,F,rfl,?_,d2,d3,below⟩
   cases r<;>first|exact d1|exact absurd ⟨_,rfl⟩ ht
 cases e with
 |normal=>exact fin hq
 |ret=>exact fin hq
 |_=>exact hq.elim
theorem FCall.enter {r:AV}(hf:P.funcs[f]? =some fn)(hn:(fn.name== "runtime.NumGoroutine")=false)(hb:fn.body=some c)(hN:fn.ntmps=N)(hargs:args.length<=N)(h:awp P B 0 N c ⟨ZBR 0 args,[]⟩ (hold (ZJ6 P fn r) .mk)):FCall P B f args r:=FCall.enterG hf hn hb hN hargs (Gh.refl _) h
def drp (σ:ZE):List Nat->ZE
 | []=>σ
 |l::r=>(drp σ r).set l .dead
theorem ZEv {σ:ZE}:∀{ids:List Nat},(drp σ ids).length=σ.length
 | []=>rfl
 |l::r=>by simp[drp,ZEv]
theorem ZLc {σ:ZE}{l:Nat}:∀{ids:List Nat},l∈ids->l<σ.length->(drp σ ids)[l]? =some .dead
 |k::r,h,hl=>by
  by_cases e:k=l
  ·subst e
   simp only[drp]
   rw[zT (by rw[ZEv];exact hl)]
  ·simp only[drp]
   rw[zO e]
   exact ZLc ((zQ.1 h).resolve_left fun e'=>e e'.symm) hl
theorem ZJp {σ:ZE}{l:Nat}:∀{ids:List Nat},l∉ids->(drp σ ids)[l]? =σ[l]?
 | [],_=>rfl
 |k::r,h=>by
  simp only[drp]
  rw[zO fun e=>h (by rw[e];exact zL ..)]
  exact ZJp fun h'=>h (zM _ h')
variable {fr:Frm}{XA XC:List AV}{UA UC:List Value}{XS:List AV}{US:List Value}
theorem Gh.setAt (i:Nat)(ids:List Nat){old:List AV}{uo:List Value}(hi:σ[i]? =some (.pack XS US))(hX:XS=XA++(old++XC))(hU:US=UA++(uo++UC))(hla:UA.length=XA.length)(hlo:uo.length=old.length)(hcp:CP σ ys vs ids)(hn:(i::ids).Nodup):Gh B nb N ⟨fr,σ⟩ ⟨fr,(drp σ ids).set i (.pack (XA++(ys++XC)) (UA++(vs++UC)))⟩:=by
 subst hX hU
 intro m0 w0 m a w h
 rw[zR]at hn
 have hs:=h.sim
 have hb:=hs.blk i
 rw[hi]at hb
 obtain⟨F0,f1,f2,f3⟩:=hb
 obtain⟨v1,v2,FA,FR,ev,rfl,dA,dR⟩:=f3.split
 obtain⟨rfl,rfl⟩:=List.append_inj ev (by rw[hla,dA.len])
 obtain⟨v3,v4,FO,FC,ev2,rfl,dO,dC⟩:=dR.split
 obtain⟨rfl,rfl⟩:=List.append_inj ev2 (by rw[hlo,dO.len])
 obtain⟨F2,g1,g2,g3⟩:=hcp.sound hs hn.2
 have hp:=hcp.packs
 rw[zB]at f2
 obtain⟨fA,fR,fAR⟩:=f2
 rw[zB]at fR
 obtain⟨fO,fC,fOC⟩:=fR
 let m':Map:=⟨fun l=>if l=i then .pack (FA++(F2++FC))else if l∈ids then .dead else m.f l,m.n,m.av⟩
 have hmi:m'.f i=.pack (FA++(F2++FC)):=by simp[m']
 have hmd:∀l,l∈ids->m'.f l=.dead:=fun l hl=>by
  have:l≠i:=fun e=>hn.1 (e▸hl)
  simp[m',this,hl]
 have hmo:∀l,l≠i->l∉ids->m'.f l=m.f l:=fun l h1 h2=>by simp[m',h1,h2]
 have hin:∀b,b∈FA++FC->(m.f i).has b:=fun b hb=>by
  rw[f1]
  rcases zH.1 hb with hb|hb
  ·exact zI _ hb
  ·exact zC _ (zC _ hb)
 have own:∀l b,(m'.f l).has b->∃l',(m.f l').has b/\(l'=l∨(l=i/\l'∈ids)):=by
  intro l b hb
  by_cases e:l=i
  ·subst e
   rw[hmi]at hb
   rcases zH.1 hb with hb|hb
   ·exact⟨l,hin b (zI _ hb),.inl rfl⟩
   ·rcases zH.1 hb with hb|hb
    ·obtain⟨l',hl',hb'⟩:=g3 b hb
     exact⟨l',hb',.inr ⟨rfl,hl'⟩⟩
    ·exact⟨l,hin b (zC _ hb),.inl rfl⟩
  ·by_cases e':l∈ids
   ·rw[hmd l e']at hb;exact hb.elim
   ·rw[hmo l e e']at hb;exact⟨l,hb,.inl rfl⟩
 have hwr:∀b,Wr m' b->Wr m b:=fun b ⟨l,hb⟩=>by obtain⟨l',h1,_⟩:=own l b hb;exact⟨l',h1⟩
 have isp:∀l,l=i∨l∈ids->(m.f l).isPack:=by
  rintro l (rfl|hl)
  ·rw[f1];trivial
  ·obtain⟨xs,us,e⟩:=hp l hl
   have hb:=hs.blk l
   rw[e]at hb
   obtain⟨F,q,_⟩:=hb
   rw[q];trivial
 have hfr:Fr m w m' w:=⟨yN _,fun _ _ _=>rfl,fun b ccs ty _ _ hh=>⟨ccs,hh,rfl⟩,fun b hb=>.inl (hwr b hb),fun l hl=>by
   by_cases e:l=i
   ·subst e;rw[hmi];exact .inr (.inr (.inr ⟨isp l (.inl rfl),trivial⟩))
   ·by_cases e':l∈ids
    ·rw[hmd l e'];exact .inr (.inl rfl)
    ·rw[hmo l e e'];exact .inl rfl,yN _,rfl,rfl,rfl,rfl⟩
 have hil:i<σ.length:=(zF.1 hi).1
 have hdis:∀x,x∈F2->∀y,y∈FA++FC->x≠y:=fun x hx y hy e=>by
  subst e
  obtain⟨l',hl',hb'⟩:=g3 x hx
  have:=hs.inj i l' x (hin x hy) hb'
  subst this
  exact hn.1 hl'
 refine⟨m',⟨?_,fun l=> ?_,fun l l' b h1 h2=> ?_,fun b hb=>hs.sep b (hwr b hb),hs.avlt,hs.tb.sub hwr⟩,h.fr.mono hfr,h.df,h.step.trans hfr h.ok,h.base,h.ok⟩
 ·show m.n=_;rw[List.length_set,ZEv];exact hs.n
 ·show ZAc B m' w (m'.f l) ((drp σ ids).set i (.pack (XA++(ys++XC)) (UA++(vs++UC))))[l]?
  by_cases e:l=i
  ·subst e
   rw[hmi,zT (by rw[ZEv];exact hil)]
   refine⟨FA++(F2++FC),rfl,?_,dA.append (g1.append dC)⟩
   rw[zB,zB]
   refine⟨fA,⟨g2,fC,fun x hx y hy=>hdis x hx y (zC _ hy)⟩,fun x hx y hy=> ?_⟩
   rcases zH.1 hy with hy|hy
   ·exact fun e=>hdis y hy x (zI _ hx) e.symm
   ·exact fAR x hx y (zC _ hy)
  ·rw[zO (Ne.symm e)]
   by_cases e':l∈ids
   ·obtain⟨xs,us,q⟩:=hp l e'
    rw[hmd l e',ZLc e' (zF.1 q).1];rfl
   ·rw[hmo l e e',ZJp e']
    have hb:=hs.blk l
    cases hσ:σ[l]? with
    |none=>rw[hσ]at hb;exact hb
    |some k=>
     rw[hσ]at hb
     cases k with
     |dead=>exact hb
     |pack xs vs=>exact hb
     |tcells ot cs=>
      obtain⟨b,ccs,ty,g1,g2,g3,g4⟩:=hb
      refine⟨b,ccs,ty,g1,g2,g3,fun i x hx=> ?_⟩
      obtain⟨y,hy,hc⟩:=g4 i x hx
      exact⟨y,hy,hc.mono hfr⟩
     |telems oe sz es=>
      obtain⟨g0,g0',hb⟩:=hb
      refine⟨g0,g0',?_⟩
      rcases hb with hb|⟨b,ccs,ty,g1,g2,g3,g4⟩
      ·exact .inl hb
      ·refine .inr ⟨b,ccs,ty,g1,g2,g3,fun i e' k x hi hk=> ?_⟩
       obtain⟨y,hy,hc⟩:=g4 i e' k x hi hk
       exact⟨y,hy,hc.mono hfr⟩
 ·obtain⟨j,q1,q2⟩:=own l b h1
  obtain⟨j',q1',q2'⟩:=own l' b h2
  have:=hs.inj j j' b q1 q1'
  subst this
  have alive:∀{l:Nat},(m'.f l).has b->l∉ids:=fun h hl=>by rw[hmd _ hl]at h;exact h.elim
  rcases q2 with rfl|⟨rfl,q2⟩<;>rcases q2' with rfl|⟨rfl,q2'⟩
  ·rfl
  ·exact absurd q2' (alive h1)
  ·exact absurd q2 (alive h2)
  ·rfl
theorem Gh.absorb (i:Nat)(ids:List Nat)(hi:σ[i]? =some (.pack XS US))(hcp:CP σ ys vs ids)(hn:(i::ids).Nodup):
  Gh B nb N ⟨fr,σ⟩ ⟨fr,(drp σ ids).set i (.pack (XS++ys) (US++vs))⟩:=by
 intro m0 w0 m a w h
 have hb:=h.sim.blk i
 rw[hi]at hb
 obtain⟨F,_,_,hd⟩:=hb
 have:=Gh.setAt (B:=B) (nb:=nb) (N:=N) (fr:=fr) i ids (XA:=XS) (old:=[]) (XC:=[]) (UA:=US) (uo:=[]) (UC:=[]) hi (by simp) (by simp) hd.len rfl hcp hn
 simp only[yD]at this
 exact this m0 w0 m a w h
def RW (sz n:Nat)(rows:List (List AV))(us:List Value):Prop:=rows.length=n/\(∀e,e∈rows->e.length=sz)/\rows.flatten=us.map .lit
theorem RW.nil :RW sz 0 [] []:=⟨rfl,by simp,rfl⟩
theorem RW.snoc (h:RW sz n rows us)(vs:List Value)(hl:vs.length=sz):RW sz (n+1) (rows++[vs.map .lit]) (us++vs):=by
 obtain⟨h1,h2,h3⟩:=h
 refine⟨by simp[h1],fun e he=> ?_,by simp[h3]⟩
 rcases zH.1 he with he|he
 ·exact h2 e he
 ·simp at he;subst he;simpa using hl
theorem RW.len (h:RW sz n rows us):rows.length=n:=h.1
variable {i:Nat}
theorem RW.row (h:RW sz n rows us)(hi:i<n):∃row,rows[i]? =some row/\row.length=sz:=by
 have:i<rows.length:=by rw[h.1];exact hi
 exact⟨rows[i],zA this,h.2.1 _ (zW _)⟩
theorem RW.closed (h:RW sz n rows us)(m:Nat):ZAA m rows:=by
 intro e he
 obtain⟨i,hi⟩:=yH he
 have:∀(k:Nat) (x:AV),e[k]? =some x->∃v,x=.lit v:=by
  intro k x hk
  have:=ZB7 h.2.1 hi hk
  rw[h.2.2,zJ]at this
  obtain⟨v,_,rfl⟩:=yW.1 this
  exact⟨v,rfl⟩
 clear hi he
 induction e with
 |nil=>simp[AV.closed.closeds]
 |cons x r ih=>
  obtain⟨v,rfl⟩:=this 0 x rfl
  simp only[AV.closed.closeds]
  exact⟨by simp[AV.closed],ih fun k y hk=>this (k+1) y (by simpa using hk)⟩
theorem RW.cong {n':Nat}{rows':List (List AV)}{us':List Value}(h:RW sz n rows us)(h1:n=n')(h2:rows=rows')(h3:us=us'):RW sz n' rows' us':=by subst h1 h2 h3;exact h
variable {α:Type}
theorem ZKz {es:List (List α)}(h:∀e,e∈es->e.length=sz)(hi:i<es.length){A v C:List α}(he:es.flatten=A++(v++C))(hA:A.length=i*sz)(hv:v.length=sz):es[i]? =some v:=by
 rw[zA hi]
 congr 1
 have hl:=h _ (zW hi)
 apply zU
 intro k
 by_cases hk:k<sz
 ·have:=ZB7 h (zA hi) (zA (l:=es[i]) (i:=k) (by omega))
  rw[he,zP (by omega),hA,yL,zK (by omega)]at this
  rw[this,zA (by omega)]
 ·rw[zD (by omega),zD (by omega)]
theorem ZDF {α:Type}{sz:Nat}:∀{es:List (List α)} (_:∀e,e∈es->e.length=sz) {i:Nat} (_:i<es.length) (v:List α),(es.set i v).flatten=es.flatten.take (i*sz)++(v++es.flatten.drop (i*sz+sz))
 |a::r,h,0,_,v=>by
  have:=h a (zL ..)
  rw[List.set_cons_zero,zG,zG,Nat.zero_mul,Nat.zero_add,List.take_zero,yC,←this,zZ]
 |a::r,h,i+1,hi,v=>by
  have ha:=h a (zL ..)
  have ih:=ZDF (es:=r) (fun e he=>h e (zM _ he)) (i:=i) (by simpa using hi) v
  have e1:(a++r.flatten).take (sz+i*sz)=a++r.flatten.take (i*sz):=by
   rw[←ha,List.take_append,List.take_of_length_le (by omega),yL]
  have e2:(a++r.flatten).drop (sz+(i*sz+sz))=r.flatten.drop (i*sz+sz):=by
   rw[yJ,List.drop_of_length_le (by omega),ha,yL,yC]
  rw[List.set_cons_succ,zG,zG,ih,yP,yU (i*sz) sz,e1,Nat.add_assoc sz (i*sz) sz,e2,List.append_assoc,yU sz (i*sz)]
def ZJ8 (sz i:Nat)(us vs:List Value):List Value:=us.take (i*sz)++(vs++us.drop (i*sz+sz))
theorem RW.set (h:RW sz n rows us)(hi:i<n)(vs:List Value)(hl:vs.length=sz):RW sz n (rows.set i (vs.map .lit)) (ZJ8 sz i us vs):=by
 obtain⟨h1,h2,h3⟩:=h
 refine⟨by simp[h1],fun e he=> ?_,?_⟩
 ·rcases List.mem_or_eq_of_mem_set he with he|he
  ·exact h2 e he
  ·subst he;simpa using hl
 ·rw[ZDF h2 (by omega),h3];simp[ZJ8,List.map_take,List.map_drop]
theorem RW.at (h:RW sz n rows us)(hi:i<n)(hU:us=UA++(vs++UC))(hA:UA.length=i*sz)(hv:vs.length=sz):rows[i]? =some (vs.map .lit):=by
 obtain⟨h1,h2,h3⟩:=h
 subst hU
 exact ZKz h2 (by omega) (A:=UA.map .lit) (C:=UC.map .lit) (by rw[h3];simp) (by simpa using hA) (by simpa using hv)
theorem RW.setAt (h:RW sz n rows (UA++(vs++UC)))(hi:i<n)(hA:UA.length=i*sz)(hv:vs.length=sz)(vs':List Value)(hv':vs'.length=sz):RW sz n (rows.set i (vs'.map .lit)) (UA++(vs'++UC)):=by
 have:=h.set hi vs' hv'
 unfold ZJ8 at this
 have e1:(UA++(vs++UC)).take (i*sz)=UA:=by rw[←hA,yE]
 have e2:(UA++(vs++UC)).drop (i*sz+sz)=UC:=by
  rw[←hA,←hv,yJ,List.drop_of_length_le (by omega),yL,zZ,yC]
 rw[e1,e2]at this
 exact this
theorem RW.rep (n:Nat)(vs:List Value):RW vs.length n (zY n (vs.map .lit)) (zY n vs).flatten:=by
 refine⟨by simp,fun e he=> ?_,?_⟩
 ·rw[List.eq_of_mem_replicate he];simp
 ·induction n with
  |zero=>rfl
  |succ n ih=>rw[List.replicate_succ,List.replicate_succ,zG,zG,ih,yK]
theorem ZCQ {a b:List Value}(h:a.map AV.lit=b.map AV.lit):a=b:=by
 induction a generalizing b with
 |nil=>cases b<;>simp_all
 |cons x a ih=>
  cases b with
  |nil=>simp at h
  |cons y b=>simp at h;rw[h.1,ih (by simpa using h.2)]
theorem ZAo {c:α->List AV}(hc:∀x,(c x).length=sz)(s:List α):(s.map c).flatten.length=s.length*sz:=by
 have:=ZCR (es:=s.map c) (sz:=sz) (fun e he=>by obtain⟨x,_,rfl⟩:=yF.1 he;exact hc x)
 simpa using this
theorem Gh.setRow {c:α->List AV}{s:List α}{x y:α}(p:Nat)(ids:List Nat)(hp:σ[p]? =some (.pack XS us))(hs:s[i]? =some x)(hX:XS=(s.map c).flatten)(H:RW sz n rows us)(hc:∀x,(c x).length=sz){zs:List AV}(hcp:CP σ zs vs ids)(hy:c y=zs)(hn:(p::ids).Nodup):Gh B nb N ⟨fr,σ⟩ ⟨fr,(drp σ ids).set p (.pack ((s.set i y).map c).flatten (ZJ8 sz i us vs))⟩:=by
 intro m0 w0 m a w h
 subst hX hy
 have hb:=h.sim.blk p
 rw[hp]at hb
 obtain⟨F,_,_,hd⟩:=hb
 have hul:=hd.len
 rw[ZAo hc]at hul
 have hi:=(zF.1 hs).1
 have hX:(s.map c).flatten=((s.map c).flatten.take (i*sz))++(c x++(s.map c).flatten.drop (i*sz+sz)):=by
  have:=ZDF (es:=s.map c) (sz:=sz) (fun e he=>by obtain⟨x,_,rfl⟩:=yF.1 he;exact hc x) (i:=i) (by simpa using hi) (c x)
  rw[←this]
  congr 1
  refine zU fun k=> ?_
  rw[List.getElem?_set]
  split
  ·next e=>subst e;rw[zJ,hs];simp[hi]
  ·rfl
 have hle:i*sz+sz<=us.length:=by
  rw[hul]
  have:(i+1)*sz<=s.length*sz:=yM sz hi
  rw[yP]at this;exact this
 have hU:us=us.take (i*sz)++((us.drop (i*sz)).take sz++us.drop (i*sz+sz)):=by
  have:us.drop (i*sz+sz)=(us.drop (i*sz)).drop sz:=by rw[List.drop_drop]
  rw[this,zX,zX]
 have key:=Gh.setAt (B:=B) (nb:=nb) (N:=N) (fr:=fr) p ids (vs:=vs) hp hX hU (by rw[zV,zV,ZAo hc,hul]) (by rw[zV,List.length_drop,hc];omega) hcp hn
 have e2:((s.set i y).map c).flatten=((s.map c).flatten.take (i*sz))++(c y++(s.map c).flatten.drop (i*sz+sz)):=by
  rw[List.map_set,ZDF (es:=s.map c) (sz:=sz) (fun e he=>by obtain⟨x,_,rfl⟩:=yF.1 he;exact hc x) (i:=i) (by simpa using hi)]
 rw[e2]
 exact key m0 w0 m a w h
inductive ZC :List AV->List Value->Prop
 |nil:ZC [] []
 |lit (v:Value) {xs:List AV} {vs:List Value} (h:ZC xs vs):ZC (.lit v::xs) (v::vs)
 |emp (a:Option Addr) {xs:List AV} {vs:List Value} (h:ZC xs vs):ZC (.arr []::xs) (.slice a 0 0::vs)
theorem ZC.dvs (h:ZC xs vs):DVs B w xs vs []:=by
 induction h with
 |nil=>exact .nil
 |lit v _ ih=>exact .lit v ih
 |emp a _ ih=>exact .emp a ih
theorem ZC.append (h:ZC xs vs)(h':ZC ys us):ZC (xs++ys) (vs++us):=by
 induction h with
 |nil=>exact h'
 |lit v _ ih=>exact .lit v ih
 |emp a _ ih=>exact .emp a ih
theorem ZC.rep {xs:List AV}{vs:List Value}(h:ZC xs vs):∀n,ZC (zY n xs).flatten (zY n vs).flatten
 |0=>.nil
 |n+1=>by rw[List.replicate_succ,List.replicate_succ,zG,zG];exact h.append (ZC.rep h n)
theorem Gh.packZ (hz:ZC xs vs):Gh B nb N ⟨fr,σ⟩ ⟨fr,σ++[.pack xs vs]⟩:=by
 intro m0 w0 m a w h
 have hfr:Fr m w (m.push (.pack [])) w:=Fr.push h.sim _ (yN _) (fun _ _=>rfl) (fun b hb=>by cases hb) rfl rfl rfl
 have hs:=h.sim.push (.pack []) (.pack xs vs) hfr (fun _ _=>rfl) (fun b hb=>by cases hb) ⟨[],rfl,by simp,hz.dvs⟩
 exact⟨m.push (.pack []),hs,⟨h.fr.1,fun j=>(h.fr.2 j).mono hfr⟩,h.df,h.step.trans hfr h.ok,h.base,h.ok⟩
def MCall (P:Program)(B:Nat)(f:FuncId)(es:List (List AV))(ks:List Value)(es':List (List AV))(r:Value):Prop:=
 Ent P f/\∀(av:Nat->Prop) w v F,ZPt B av w->(∀b,b∈F->¬av b/\ZNM B≠some b)->DVs B w [.arr es] [v] F->F.Nodup->Calls P f (#[v]++ks.toArray) w fun e w'=>e=.returned r/\
  ∃F',DVs B w' [.arr es'] [v] F'/\F'.Nodup/\(∀b,b∈F'->b∈F∨w.heap.size<=b)/\
   w.heap.size<=w'.heap.size/\(∀b,b<w.heap.size->b∉F->w'.heap[b]? =w.heap[b]?)/\
   (∀b ccs ty,b∈F->b∈F'->w.heap[b]? =some (.cells ccs ty (0,0))->∃ccs',w'.heap[b]? =some (.cells ccs' ty (0,0))/\ccs'.size=ccs.size)/\
   w'.tape=w.tape/\w'.os=w.os/\w'.output=w.output
variable {ks:List Value}{es':List (List AV)}{r:Value}
theorem MCall.go (h:MCall P B f es ks es' r)(l:Nat){v:Value}(hl:σ[l]? =some (.pack [.arr es] [v]))(ha:args=.lit v::ks.map .lit)(hK:K (.lit r) (σ.set l (.pack [.arr es'] [v]))):ACall P B f args σ (hold K b):=by
 subst ha
 refine⟨h.1,fun m w vs hs hv=> ?_⟩
 have hbl:=hs.blk l
 rw[hl]at hbl
 obtain⟨F,g1,g2,g3⟩:=hbl
 have hvs:vs=#[v]++ks.toArray:=by
  apply Array.ext_getElem?
  intro i
  obtain⟨hlen,hx⟩:=hv
  have key:∀(i:Nat) (x:Value),(v::ks)[i]? =some x->vs.getD i undef=x:=by
   intro i x hi
   have:(AV.lit v::ks.map .lit)[i]? =some (.lit x):=by
    have e3:(AV.lit v::ks.map .lit)=(v::ks).map .lit:=rfl
    rw[e3,zJ,hi];rfl
   exact xC (hx i _ this)
  have e2:(#[v]++ks.toArray)=(v::ks).toArray:=by simp
  rw[e2,show((v::ks).toArray)[i]? =(v::ks)[i]? from by simp]
  have hlen':vs.size=(v::ks).length:=by simpa using hlen
  by_cases hlt:i<vs.size
  ·have hi:(v::ks)[i]? =some ((v::ks)[i]'(by omega)):=zA (by omega)
   have:=key i _ hi
   rw[hi,xA hlt]
   rw[yX,xA hlt]at this
   simpa using this
  ·rw[Array.getElem?_eq_none (by omega),zD (by omega)]
 rw[hvs]
 refine(h.2 m.av w v F ⟨hs.avlt,hs.tb.w⟩ (fun b hb=>⟨hs.sep b ⟨l,by rw[g1];exact hb⟩,fun e=>(hs.tb b e).1 ⟨l,by rw[g1];exact hb⟩⟩) g3 g2).mono ?_
 rintro e w' ⟨rfl,F',d1,d2,d3,d4,d5,d6,d7,d8,d9⟩
 have hFw:∀b,b∈F->(m.f l).has b:=fun b hb=>by rw[g1];exact hb
 let m':Map:=⟨fun j=>if j=l then .pack F' else m.f j,m.n,m.av⟩
 have hml:m'.f l=.pack F':=by simp[m']
 have hmo:∀j,j≠l->m'.f j=m.f j:=fun j hj=>by simp[m',hj]
 have hfr:Fr m w m' w':=⟨d4,fun b hb hn=>d5 b hb fun hF=>hn ⟨l,hFw b hF⟩,fun b ccs ty hw hw2 hh=>by
   by_cases hF:b∈F
   ·obtain⟨j,hj⟩:=hw2
    by_cases e:j=l
    ·subst e;rw[hml]at hj;exact d6 b ccs ty hF hj hh
    ·rw[hmo j e]at hj;exact absurd (hs.inj j l b hj (hFw b hF)) e
   ·exact⟨ccs,by rw[d5 b (yZ.1 hh).1 hF,hh],rfl⟩,fun b ⟨j,hb⟩=>by
   by_cases e:j=l
   ·subst e
    rw[hml]at hb
    rcases d3 b hb with hb|hb
    ·exact .inl ⟨j,hFw b hb⟩
    ·exact .inr hb
   ·rw[hmo j e]at hb;exact .inl ⟨j,hb⟩,fun j hj=>by
   by_cases e:j=l
   ·subst e;rw[hml,g1];exact .inr (.inr (.inr ⟨trivial,trivial⟩))
   ·rw[hmo j e];exact .inl rfl,yN _,rfl,d7,d8,d9⟩
 have hlt:l<σ.length:=(zF.1 hl).1
 refine⟨r,.lit r,_,m',rfl,hK,?_,.lit r,hfr⟩
 refine hs.upd hfr l (by show m.n=_;rw[List.length_set];exact hs.n) (fun j hj=>⟨by rw[zO (Ne.symm hj)],hmo j hj⟩) (fun j b hj hb=> ?_) ?_ (fun j b hj hb hb'=> ?_)
 ·exact d5 b (hs.mapOk b ⟨j,hb⟩).1 fun hF=>hj (hs.inj j l b hb (hFw b hF))
 ·rw[hml,zT hlt]
  exact⟨F',rfl,d2,d1⟩
 ·rw[hml]at hb'
  rcases d3 b hb' with hF|hF
  ·exact hj (hs.inj j l b hb (hFw b hF))
  ·have:=(hs.mapOk b ⟨j,hb⟩).1;omega
def ZO4 (σ:ZE)(sz:Nat)(es':List (List AV))(r:Value)(xs:List AV):Prop:=
 xs=[.lit r]/\∃rows us,σ[0]? =some (.elems sz rows)/\(∃l2:Nat,σ[l2]? =some (.pack es'.flatten us))/\rows.flatten=us.map .lit/\rows.length=es'.length/\∀e,e∈es'->e.length=sz
def ZM8 (P:Program)(fn:Func)(sz:Nat)(es':List (List AV))(r:Value)(e:Exit)(st:ASt):Prop:=
 match e with
 | .normal| .ret=>ZBp P st.σ st.fr fn.results.toList (hold (ZO4 st.σ sz es' r) .mk)
 |_=>False
theorem ZNl :ZM8 P fn sz es' r .ret st=(ZBp P st.σ st.fr fn.results.toList (hold (ZO4 st.σ sz es' r) .mk)):=rfl
theorem ZJH :ZM8 P fn sz es' r .normal st=(ZBp P st.σ st.fr fn.results.toList (hold (ZO4 st.σ sz es' r) .mk)):=rfl
def ZJ7 (P:Program)(fn:Func)(r:Value)(e:Exit)(st:ASt):Prop:=
 match e with
 | .normal| .ret=>ZBp P st.σ st.fr fn.results.toList (hold (fun xs=>xs=[.lit r]) .mk)
 |_=>False
theorem ZL4 :ZJ7 P fn r .ret st=(ZBp P st.σ st.fr fn.results.toList (hold (fun xs=>xs=[.lit r]) .mk)):=rfl
theorem ZH1 :ZJ7 P fn r .normal st=(ZBp P st.σ st.fr fn.results.toList (hold (fun xs=>xs=[.lit r]) .mk)):=rfl
def ZCw (sz:Nat):Nat->List Value->List (List AV)
 |0,_=>[]
 |n+1,us=>(us.take sz).map .lit::ZCw sz n (us.drop sz)
theorem ZDL (sz:Nat):∀(n:Nat) (us:List Value),us.length=n*sz->(ZCw sz n us).length=n/\(∀e,e∈ZCw sz n us->e.length=sz)/\(ZCw sz n us).flatten=us.map .lit
 |0,us,h=>by
  have:us=[]:=zN.1 (by simpa using h)
  subst this;simp[ZCw]
 |n+1,us,h=>by
  rw[yP]at h
  obtain⟨h1,h2,h3⟩:=ZDL sz n (us.drop sz) (by rw[List.length_drop];omega)
  refine⟨by simp[ZCw,h1],fun e he=> ?_,?_⟩
  ·rcases zQ.1 he with rfl|he
   ·simp;omega
   ·exact h2 e he
  ·rw[ZCw,zG,h3,←yK,zX]
theorem MCall.enter (sz:Nat)(hf:P.funcs[f]? =some fn)(hn:(fn.name== "runtime.NumGoroutine")=false)(hb:fn.body=some c)(hN:fn.ntmps=N)(hargs:ks.length+1<=N)(hel:es'.length=es.length)(hsz0:∀e,e∈es->e.length=sz)(h0:es=[]->awp P B 0 N c ⟨ZBR 0 (.arr []::ks.map .lit),[]⟩ (hold (ZJ7 P fn r) .mk))(h:es≠[]->∀rows us,rows.flatten=us.map .lit->rows.length=es.length->(∀e,e∈rows->e.length=sz)->us.length=es.flatten.length->awp P B 2 N c ⟨ZBR 0 (.own 0 es.length::ks.map .lit),[.elems sz rows,.pack es.flatten us]⟩ (hold (ZM8 P fn sz es' r) .mk)):MCall P B f es ks es' r:=by
 refine⟨⟨fn,hf,hn,by rw[hb];rfl⟩,fun av w v F hav hsp hd hnd=>calls_of_wp hf hb ?_⟩
 subst hN
 generalize hxs:[AV.arr es]=xs at hd
 generalize hvs:[v]=vs at hd
 cases hd with
 |nil=>cases hxs
 |lit v h=>cases hxs
 | @emp a _ _ _ hd=>
  cases hxs
  cases hd
  cases hvs
  let m0:Map:=⟨fun _=>.dead,0,av⟩
  have hWr:∀b,¬Wr m0 b:=by rintro b ⟨l,hl⟩;simp[m0,MS.has]at hl
  have hsim:Sim B m0 [] w:=⟨rfl,fun l=>by simp[ZAc,m0],fun l l' b hl=>by simp[m0,MS.has]at hl,fun b hb=>absurd hb (hWr b),hav.1,hav.2.ok fun b hb=>absurd hb (hWr b)⟩
  have hv':RelL B (Av m0) m0 w (.arr []::ks.map .lit) (#[.slice a 0 0]++ks.toArray):=by
   refine⟨by simp,fun i x hi=> ?_⟩
   have e2:(#[Value.slice a 0 0]++ks.toArray)=(Value.slice a 0 0::ks).toArray:=by simp
   rw[e2]
   rw[yX,yG]
   cases i with
   |zero=>simp at hi;subst hi;exact .arrNil a 0
   |succ i=>
    rw[zS,zJ]at hi
    obtain⟨y,hy,rfl⟩:=yW.1 hi
    rw[zS,hy];exact .lit y
  have hsim0:ASim B 0 fn.ntmps m0 w ⟨ZBR 0 (.arr []::ks.map .lit),[]⟩ m0 ⟨(#[.slice a 0 0]++ks.toArray)++yY (fn.ntmps- (#[Value.slice a 0 0]++ks.toArray).size) undef,[]⟩ w:=
   ⟨hsim,ZAU hv' (by simpa using hargs),rfl,Fr.refl m0 w,rfl,fun b hb=>absurd hb (hWr b)⟩
  refine wp_mono (ZY c _ _ (h0 rfl) m0 w m0 _ w hsim0) ?_
  rintro e a' w' ⟨st',m',hq,hs⟩
  have hes':es'=[]:=zN.1 (by simpa using hel)
  have fin:∀(hq:ZBp P st'.σ st'.fr fn.results.toList fun xs=>xs=[.lit r]),a'.defers=[]/\∃v',(results fn a'.tmps).run P w'=.ok v' w'/\(xD v'=.returned r/\∃F',DVs B w' [.arr es'] [.slice a 0 0] F'/\F'.Nodup/\(∀b,b∈F'->b∈([]:List Nat)∨w.heap.size<=b)/\
    w.heap.size<=w'.heap.size/\(∀b,b<w.heap.size->b∉([]:List Nat)->w'.heap[b]? =w.heap[b]?)/\
    (∀b ccs ty,b∈([]:List Nat)->b∈F'->w.heap[b]? =some (.cells ccs ty (0,0))->∃ccs',w'.heap[b]? =some (.cells ccs' ty (0,0))/\ccs'.size=ccs.size)/\
    w'.tape=w.tape/\w'.os=w.os/\w'.output=w.output):=by
   intro hq
   obtain⟨xs,u,rfl,hrun,hc⟩:=ZU hs hq
   have hu:=xC (show Conc B (Av m') w' m' (.lit r) u from hc)
   have hfr:=hs.step
   refine⟨hs.df,u,hrun,by rw[hu],[],by rw[hes'];exact .emp a .nil,by simp,fun b hb=>(by cases hb),hfr.size,fun b hb _=>hfr.keep b hb (hWr b),fun b ccs ty hb=>(by cases hb),hfr.tape,hfr.os,hfr.output⟩
  cases e with
  |normal=>exact fin hq
  |ret=>exact fin hq
  |_=>exact hq.elim
 | @arr es0 b sz0 cap ccs ty _ _ F' _ hB hne hsz hcap hh hsize hx hd=>
  cases hxs
  cases hd
  cases hvs
  have hsz':sz0=sz:=by
   obtain⟨e,r',rfl⟩:=List.exists_cons_of_ne_nil hne
   rw[←hsz e (zL ..),hsz0 e (zL ..)]
  subst hsz'
  have hul:(ccs.toList.take (es.length*sz0)).length=es.length*sz0:=by
   have h1:es.length*sz0<=cap*sz0:=yM _ hcap
   rw[zV,Nat.min_eq_left]
   rw[show ccs.toList.length=ccs.size from rfl]
   exact yT h1 hsize
  obtain⟨r1,r2,r3⟩:=ZDL sz0 es.length _ hul
  generalize hus:ccs.toList.take (es.length*sz0)=us at hx r1 r2 r3 hul
  generalize hrw:ZCw sz0 es.length us=rows at r1 r2 r3
  simp only[yD]at hnd
  rw[zR]at hnd
  let m0:Map:=⟨fun l=>if l=0 then .arr b sz0 es.length else if l=1 then .pack F' else .dead,2,av⟩
  have e0:m0.f 0=.arr b sz0 es.length:=by simp[m0]
  have e1:m0.f 1=.pack F':=by simp[m0]
  have eo:∀l,l≠0->l≠1->m0.f l=.dead:=fun l h1 h2=>by simp[m0,h1,h2]
  have hWr:∀x,Wr m0 x->x∈b::F':=by
   rintro x ⟨l,hl⟩
   by_cases c0:l=0
   ·subst c0;rw[e0]at hl
    have hl:b=x:=hl
    simp[hl]
   ·by_cases c1:l=1
    ·subst c1;rw[e1]at hl;exact zM _ hl
    ·rw[eo l c0 c1]at hl;exact hl.elim
  have hWr':∀x,x∈b::F'->Wr m0 x:=by
   intro x hx
   rcases zQ.1 hx with rfl|hx
   ·exact⟨0,by rw[e0];exact rfl⟩
   ·exact⟨1,by rw[e1];exact hx⟩
  have hsim:Sim B m0 [.elems sz0 rows,.pack es.flatten us] w:=by
   refine⟨rfl,fun l=> ?_,fun l l' x h1 h2=> ?_,fun x hx=>(hsp x (by simpa using hWr x hx)).1,hav.1,hav.2.ok fun x hx=>(hsp x (by simpa using hWr x hx)).2⟩
   ·by_cases c0:l=0
    ·subst c0
     refine⟨r2,by omega,.inr ⟨b,ccs,ZOo ty,by rw[e0,r1],hh,by rw[r1];exact yT (yM _ hcap) hsize,fun i e k x hi hk=> ?_⟩⟩
     have hfl:=ZB7 r2 hi hk
     rw[r3,zJ]at hfl
     obtain⟨y,hy,rfl⟩:=yW.1 hfl
     rw[←hus,yA]at hy
     split at hy
     ·exact⟨y,by simpa using hy,.lit y⟩
     ·cases hy
    ·by_cases c1:l=1
     ·subst c1
      exact⟨F',e1,hnd.2,hx⟩
     ·rw[zD (by simp;omega)]
      exact eo l c0 c1
   ·have two:∀l,(m0.f l).has x->(l=0/\x=b)∨(l=1/\x∈F'):=by
     intro l hl
     by_cases c0:l=0
     ·subst c0;rw[e0]at hl
      have hl:b=x:=hl
      exact .inl ⟨rfl,hl.symm⟩
     ·by_cases c1:l=1
      ·subst c1;rw[e1]at hl;exact .inr ⟨rfl,hl⟩
      ·rw[eo l c0 c1]at hl;exact hl.elim
    rcases two l h1 with⟨rfl,rfl⟩|⟨rfl,q⟩<;>rcases two l' h2 with⟨rfl,q'⟩|⟨rfl,q'⟩
    ·rfl
    ·exact absurd q' hnd.1
    ·subst q';exact absurd q hnd.1
    ·rfl
  have hv':RelL B (Av m0) m0 w (.own 0 es.length::ks.map .lit) (#[.slice (some ⟨b,0,none⟩) es.length cap]++ks.toArray):=by
   refine⟨by simp,fun i x hi=> ?_⟩
   have e2:(#[Value.slice (some ⟨b,0,none⟩) es.length cap]++ks.toArray)=(Value.slice (some ⟨b,0,none⟩) es.length cap::ks).toArray:=by simp
   rw[e2,yX,yG]
   cases i with
   |zero=>
    simp at hi;subst hi
    exact .ownArr 0 b sz0 es.length cap ccs ty (by show 0<2;omega) e0 hh hsize hcap (fun h=>absurd (yB h) hne)
   |succ i=>
    rw[zS,zJ]at hi
    obtain⟨y,hy,rfl⟩:=yW.1 hi
    rw[zS,hy];exact .lit y
  have hsim0:ASim B 2 fn.ntmps m0 w ⟨ZBR 0 (.own 0 es.length::ks.map .lit),[.elems sz0 rows,.pack es.flatten us]⟩ m0 ⟨(#[.slice (some ⟨b,0,none⟩) es.length cap]++ks.toArray)++yY (fn.ntmps- (#[Value.slice (some ⟨b,0,none⟩) es.length cap]++ks.toArray).size) undef,[]⟩ w:=
   ⟨hsim,ZAU hv' (by simpa using hargs),rfl,Fr.refl m0 w,rfl,hsim.mapOk⟩
  have hul2:us.length=es.flatten.length:=by rw[hul,ZCR hsz]
  refine wp_mono (ZY c _ _ (h hne rows us r3 r1 r2 hul2) m0 w m0 _ w hsim0) ?_
  rintro e a' w' ⟨st',m',hq,hs⟩
  have fin:∀(hq:ZBp P st'.σ st'.fr fn.results.toList (ZO4 st'.σ sz0 es' r)),
    a'.defers=[]/\∃v',(results fn a'.tmps).run P w'=.ok v' w'/\(xD v'=.returned r/\∃G,DVs B w' [.arr es'] [.slice (some ⟨b,0,none⟩) es.length cap] G/\G.Nodup/\(∀x,x∈G->x∈b::F'++[]∨w.heap.size<=x)/\
    w.heap.size<=w'.heap.size/\(∀x,x<w.heap.size->x∉b::F'++[]->w'.heap[x]? =w.heap[x]?)/\
    (∀x ccs ty,x∈b::F'++[]->x∈G->w.heap[x]? =some (.cells ccs ty (0,0))->∃ccs',w'.heap[x]? =some (.cells ccs' ty (0,0))/\ccs'.size=ccs.size)/\
    w'.tape=w.tape/\w'.os=w.os/\w'.output=w.output):=by
   intro hq
   obtain⟨xs,u,⟨rfl,rows',us',q1,⟨l2,q2⟩,q3,q4,q5⟩,hrun,hc⟩:=ZU hs hq
   have hu:=xC (show Conc B (Av m') w' m' (.lit r) u from hc)
   have hfr:=hs.step
   -- the header still stands
   have hb0:=hs.sim.blk 0
   rw[q1]at hb0
   have hid:=hfr.ids 0 (by show 0<2;omega)
   rw[e0]at hid
   have hpos:0<es.length:=List.length_pos_iff.2 hne
   have hst:m'.f 0=.arr b sz0 es.length:=by
    obtain⟨_,_,(⟨hnil,hr⟩|⟨b',ccs',ty',p1,_⟩)⟩:=hb0
    ·rw[hr]at q4;simp at q4;omega
    ·rcases hid with hid|hid|⟨k,k',h1,h2,h3⟩|⟨h1,_⟩
     ·exact hid
     ·rw[p1]at hid;cases hid
     ·rw[p1]at h2
      simp[MS.len]at h1 h2
      omega
     ·exact h1.elim
   obtain⟨ccs',hcc,hcs⟩:=hfr.phys b ccs ty (hWr' b (zL ..)) ⟨0,by rw[hst];rfl⟩ hh
   have hown:Conc B (Av m') w' m' (.own 0 es'.length) (.slice (some ⟨b,0,none⟩) es.length cap):=by
    rw[hel]
    exact .ownArr 0 b sz0 es.length cap ccs' ty (by have:=hfr.n;show 0<m'.n;have h2:m0.n=2:=rfl;omega) hst hcc (by omega) hcap (fun h=>absurd (yB h) hne)
   obtain⟨G,d1,d2,d3⟩:=ZEo hs.sim q1 q2 rfl q3 q4 rfl q5 hown
   refine⟨hs.df,u,hrun,by rw[hu],G,d1,d2,fun x hx=> ?_,hfr.size,fun x hx hn=>hfr.keep x hx fun hw=>hn (by simpa using hWr x hw),fun x ccs ty hx hG=>hfr.phys x ccs ty (hWr' x (by simpa using hx)) ((d3 x hG).elim (fun h=>⟨0,h⟩) (fun h=>⟨l2,h⟩)),hfr.tape,hfr.os,hfr.output⟩
   have hw':Wr m' x:=(d3 x hx).elim (fun h=>⟨0,h⟩) (fun h=>⟨l2,h⟩)
   rcases hfr.fresh x hw' with q|q
   ·exact .inl (by simpa using hWr x q)
   ·exact .inr q
  cases e with
  |normal=>exact fin hq
  |ret=>exact fin hq
  |_=>exact hq.elim
theorem Sim.opnAt (hs:Sim B m σ w)(i:Nat)(hi:σ[i]? =some (.pack XS US))(hX:XS=XA++(ys++XC)):
  ∃hs vs UA UC m',hs.length=(ZQ ys).length/\(∀h,h∈hs->ZBX h)/\ZAn ys hs=vs.map .lit/\US=UA++(vs++UC)/\UA.length=XA.length/\Sim B m' (σ.set i (.pack (XA++(vs.map .lit++XC)) US)++Zi (ZQ ys) hs) w/\Fr m w m' w:=by
 subst hX
 have hb:=hs.blk i
 rw[hi]at hb
 obtain⟨F,f1,f2,f3⟩:=hb
 obtain⟨UA,US2,FA,F2,rfl,rfl,dA,d2⟩:=f3.split
 obtain⟨vs1,UC,F1,FC,rfl,rfl,d1,dC⟩:=d2.split
 obtain⟨hd,Fs,p1,p2,rfl,p4,p5⟩:=d1.parts
 rw[zB]at f2
 obtain⟨fA,f2,fAR⟩:=f2
 rw[zB]at f2
 obtain⟨n1,n2,n3⟩:=f2
 obtain⟨k1,k2⟩:=ZB3 n1
 have nAC:(FA++FC).Nodup:=zB.2 ⟨fA,n2,fun x hx y hy=>fAR x hx y (zC _ hy)⟩
 have dAC:DVs B w (XA++(vs1.map .lit++XC)) (UA++(vs1++UC)) (FA++FC):=by
  have:=dA.append ((DVs.lits vs1).append dC)
  simpa using this
 let m':Map:=⟨fun l=>if l=i then .pack (FA++FC)else if l<m.n then m.f l else match Fs[l-m.n]? with|some F=>.pack F|none=>.dead,m.n+Fs.length,m.av⟩
 have hil:i<σ.length:=(zF.1 hi).1
 have hin:i<m.n:=by rw[hs.n];exact hil
 have hmi:m'.f i=.pack (FA++FC):=by simp[m']
 have hold:∀l,l≠i->l<m.n->m'.f l=m.f l:=fun l h1 h2=>by simp[m',h1,h2]
 have hnew:∀l b,l≠i->¬l<m.n->(m'.f l).has b->∃F,Fs[l-m.n]? =some F/\b∈F:=by
  intro l b hne hl hb
  simp only[m',hne,hl,if_false]at hb
  cases hF:Fs[l-m.n]? with
  |none=>rw[hF]at hb;exact hb.elim
  |some F=>rw[hF]at hb;exact⟨F,rfl,hb⟩
 have own:∀l b,(m'.f l).has b->(l=i/\b∈FA++FC)∨(l≠i/\l<m.n/\(m.f l).has b)∨(l≠i/\¬l<m.n/\∃F,Fs[l-m.n]? =some F/\b∈F):=by
  intro l b hb
  by_cases e:l=i
  ·subst e;rw[hmi]at hb;exact .inl ⟨rfl,hb⟩
  ·by_cases e':l<m.n
   ·rw[hold l e e']at hb;exact .inr (.inl ⟨e,e',hb⟩)
   ·exact .inr (.inr ⟨e,e',hnew l b e e' hb⟩)
 have hwi:∀b,b∈FA++(Fs.flatten++FC)->(m.f i).has b:=fun b hb=>by rw[f1];exact hb
 have hwAC:∀b,b∈FA++FC->(m.f i).has b:=fun b hb=>hwi b (by
  rcases zH.1 hb with hb|hb
  ·exact zI _ hb
  ·exact zC _ (zC _ hb))
 have hwF:∀j F b,Fs[j]? =some F->b∈F->(m.f i).has b:=fun j F b q1 q2=>hwi b (zC _ (zI _ (List.mem_flatten.2 ⟨F,zE q1,q2⟩)))
 have hdis:∀j F b,Fs[j]? =some F->b∈F->¬b∈FA++FC:=fun j F b q1 q2 hb=>by
  have hf:b∈Fs.flatten:=List.mem_flatten.2 ⟨F,zE q1,q2⟩
  rcases zH.1 hb with hb|hb
  ·exact fAR b hb b (zI _ hf) rfl
  ·exact n3 b hf b hb rfl
 have hwr:∀b,Wr m' b->Wr m b:=fun b ⟨l,hb⟩=>by
  rcases own l b hb with⟨_,q⟩|⟨_,_,q⟩|⟨_,_,F,q1,q2⟩
  ·exact⟨i,hwAC b q⟩
  ·exact⟨l,q⟩
  ·exact⟨i,hwF _ F b q1 q2⟩
 have hfr:Fr m w m' w:=⟨yN _,fun _ _ _=>rfl,fun b ccs ty _ _ hh=>⟨ccs,hh,rfl⟩,fun b hb=>.inl (hwr b hb),fun l hl=>by
   by_cases e:l=i
   ·subst e;rw[hmi,f1];exact .inr (.inr (.inr ⟨trivial,trivial⟩))
   ·rw[hold l e hl];exact .inl rfl,yQ _ _,rfl,rfl,rfl,rfl⟩
 have hpl:=ZB1 p1
 refine⟨hd,vs1,UA,UC,m',p1,ZJd p1 p2 p5,p4,rfl,dA.len,⟨?_,fun l=> ?_,fun l l' b h1 h2=> ?_,fun b hb=>hs.sep b (hwr b hb),hs.avlt,hs.tb.sub hwr⟩,hfr⟩
 ·show m.n+Fs.length=_;rw[yI,List.length_set,hpl,hs.n,p2]
 ·show ZAc B m' w (m'.f l) (σ.set i (.pack (XA++(vs1.map .lit++XC)) (UA++(vs1++UC)))++Zi (ZQ ys) hd)[l]?
  by_cases e:l=i
  ·subst e
   rw[hmi,zK (by simpa using hil),zT hil]
   exact⟨FA++FC,rfl,nAC,dAC⟩
  ·by_cases e':l<m.n
   ·rw[hold l e e',zK (by rw[List.length_set,←hs.n];exact e'),zO (Ne.symm e)]
    have hb:=hs.blk l
    cases hσ:σ[l]? with
    |none=>rw[hσ]at hb;exact hb
    |some k=>
     rw[hσ]at hb
     cases k with
     |dead=>exact hb
     |pack xs vs=>exact hb
     |tcells ot cs=>
      obtain⟨b,ccs,ty,g1,g2,g3,g4⟩:=hb
      refine⟨b,ccs,ty,g1,g2,g3,fun i x hx=> ?_⟩
      obtain⟨y,hy,hc⟩:=g4 i x hx
      exact⟨y,hy,hc.mono hfr⟩
     |telems oe sz es=>
      obtain⟨g0,g0',hb⟩:=hb
      refine⟨g0,g0',?_⟩
      rcases hb with hb|⟨b,ccs,ty,g1,g2,g3,g4⟩
      ·exact .inl hb
      ·refine .inr ⟨b,ccs,ty,g1,g2,g3,fun i e' k x hi hk=> ?_⟩
       obtain⟨y,hy,hc⟩:=g4 i e' k x hi hk
       exact⟨y,hy,hc.mono hfr⟩
   ·have hsl:σ.length=m.n:=hs.n.symm
    rw[zP (by rw[List.length_set];omega),List.length_set,hsl]
    by_cases hj:l-m.n<hd.length
    ·have e1:=zA (l:=ZQ ys) (i:=l-m.n) (by omega)
     have e2:=zA (l:=hd) (i:=l-m.n) hj
     have e3:=zA (l:=Fs) (i:=l-m.n) (by omega)
     rw[ZB2 e1 e2]
     exact⟨_,by simp only[m',e,e',if_false,e3],k1 _ (zE e3),p5 _ _ _ _ e1 e2 e3⟩
    ·rw[zD (by omega)]
     simp only[m',e,e',if_false]
     rw[zD (l:=Fs) (by omega)]
     rfl
 ·have hli:∀{j b},(m.f j).has b->(m.f i).has b->j=i:=fun{j b} q1 q2=>hs.inj j i b q1 q2
  rcases own l b h1 with⟨rfl,q⟩|⟨e,e1,q⟩|⟨e,e1,F,q1,q2⟩<;>rcases own l' b h2 with⟨rfl,q'⟩|⟨e',e1',q'⟩|⟨e',e1',G,q1',q2'⟩
  ·rfl
  ·exact absurd (hli q' (hwAC b q)) e'
  ·exact absurd q (hdis _ G b q1' q2')
  ·exact absurd (hli q (hwAC b q')) e
  ·exact hs.inj l l' b q q'
  ·exact absurd (hli q (hwF _ G b q1' q2')) e
  ·exact absurd q' (hdis _ F b q1 q2)
  ·exact absurd (hli q' (hwF _ F b q1 q2)) e'
  ·have:=k2 q1 q1' q2 q2'
   omega
theorem ASim.opnAt {m0:Map}{w0:World}{a:Act}(h:ASim B nb N m0 w0 ⟨fr,σ⟩ m a w)(i:Nat)(hi:σ[i]? =some (.pack XS US))(hX:XS=XA++(ys++XC)):
  ∃hs vs UA UC m',hs.length=(ZQ ys).length/\(∀h,h∈hs->ZBX h)/\ZAn ys hs=vs.map .lit/\US=UA++(vs++UC)/\UA.length=XA.length/\ASim B nb N m0 w0 ⟨fr,σ.set i (.pack (XA++(vs.map .lit++XC)) US)++Zi (ZQ ys) hs⟩ m' a w:=by
 obtain⟨hd,vs,UA,UC,m',p1,p2,p3,p4,p5,hs,hfr⟩:=h.sim.opnAt i hi hX
 exact⟨hd,vs,UA,UC,m',p1,p2,p3,p4,p5,hs,h.fr.mono hfr,h.df,h.step.trans hfr h.ok,h.base,h.ok⟩
variable {Q:Exit->ASt->Prop}
theorem ALoopU.opnAt {bc:Box c}{bQ:Box Q}(i:Nat)(XA ys XC:List AV)(hi:σ[i]? =some (.pack XS US))(hX:XS=XA++(ys++XC))(h:∀hs vs UA UC,hs.length=(ZQ ys).length->(∀h,h∈hs->ZBX h)->ZAn ys hs=vs.map .lit->US=UA++(vs++UC)->UA.length=XA.length->
   ALoopU P B nb N (hold c .mk) ⟨fr,σ.set i (.pack (XA++(vs.map .lit++XC)) US)++Zi (ZQ ys) hs⟩ (hold Q .mk)):ALoopU P B nb N (hold c bc) ⟨fr,σ⟩ (hold Q bQ):=by
 intro m0 w0 m a w hs
 obtain⟨hd,vs,UA,UC,m',e1,e2,e3,e4,e5,h'⟩:=hs.opnAt i hi hX
 exact h hd vs UA UC e1 e2 e3 e4 e5 m0 w0 m' a w h'
theorem ACall.opnAt (i:Nat)(XA ys XC:List AV)(hi:σ[i]? =some (.pack XS US))(hX:XS=XA++(ys++XC))(he:Ent P f)(h:∀hs vs UA UC,hs.length=(ZQ ys).length->(∀h,h∈hs->ZBX h)->ZAn ys hs=vs.map .lit->US=UA++(vs++UC)->UA.length=XA.length->
   ACall P B f args (σ.set i (.pack (XA++(vs.map .lit++XC)) US)++Zi (ZQ ys) hs) (hold K .mk)):ACall P B f args σ (hold K b):=by
 refine⟨he,fun m w vs hs hv=> ?_⟩
 obtain⟨hd,us,UA,UC,m',e1,e2,e3,e4,e5,hs',hfr⟩:=hs.opnAt i hi hX
 refine((h hd us UA UC e1 e2 e3 e4 e5).2 m' w vs hs' ⟨hv.1,fun i x hi=>(hv.2 i x hi).mono hfr⟩).mono ?_
 rintro e w' ⟨u,r,σ',m2,h1,h2,h3,h4,h5⟩
 exact⟨u,r,σ',m2,h1,h2,h3,h4,hfr.trans h5 hs.mapOk⟩
theorem ZNF {l:List α}(h:l.length=1):∃a,l=[a]:=by match l,h with| [a],_=>exact⟨a,rfl⟩
theorem ZA8 {α:Type}{c:α->List AV}(h:∀x,∃us:List Value,c x=us.map .lit):∀s:List α,∃us:List Value,(s.map c).flatten=us.map .lit
 | []=>⟨[],rfl⟩
 |x::r=>by
  obtain⟨a,ha⟩:=h x
  obtain⟨b,hb⟩:=ZA8 h r
  exact⟨a++b,by simp[ha,hb]⟩
theorem FCall.go1 {r:AV}(h:FCall P B f args' r)(hb:brw.brws σ args args')(hn:(ZAF r).length=1)(hK:∀h1:Value,ZBX h1->K (ZFR r [h1]) (σ++Zi (ZAF r) [h1])):ACall P B f args σ (hold K b):=by
 refine h.go hb fun hs hl ho=> ?_
 rw[hn]at hl
 match hs,hl with
 | [h1],_=>exact hK h1 (ho _ (by simp))
theorem ALoopU.opnAt1 {bc:Box c}{bQ:Box Q}(i:Nat)(XA ys XC:List AV)(hi:σ[i]? =some (.pack XS US))(hX:XS=XA++(ys++XC))(hn:(ZQ ys).length=1)(h:∀h1:Value,∀vs UA UC,ZBX h1->ZAn ys [h1]=vs.map .lit->US=UA++(vs++UC)->UA.length=XA.length->
   ALoopU P B nb N (hold c .mk) ⟨fr,σ.set i (.pack (XA++(vs.map .lit++XC)) US)++Zi (ZQ ys) [h1]⟩ (hold Q .mk)):ALoopU P B nb N (hold c bc) ⟨fr,σ⟩ (hold Q bQ):=by
 refine ALoopU.opnAt i XA ys XC hi hX fun hs vs UA UC hl ho e1 e2 e3=> ?_
 rw[hn]at hl
 match hs,hl with
 | [h1],_=>exact h h1 vs UA UC (ho _ (by simp)) e1 e2 e3
end
attribute [simp] ZNk ZJE ZNl ZJH ZL4 ZH1 drp ZQ ZAN ZAF ZAn ZCi ZFR Zi
end Go.Vl
