/- A part of the proof. -/
import Derived.Test.YtoiccjladkadgaaGreatStepsTakeB1
set_option linter.all false
set_option maxRecDepth 100000
namespace Go.Vl
open Go Go.RowKit
theorem P.YAU (p:Pattern)(list:List Pattern)(i:Nat)(v:List Pattern)(S:Nat)(hq:∀q,q∈list->q.kids.length=i/\wtL Pattern.wt q.kids<=S)(hi:i<=1048576)(B:Nat)(hv:∀x,x∈v->x.wt<=B)(hb:list.length*v.length<=60000000)(hll:list.length<=1048576):
  ∀(m k:Nat) (more:List Pattern),list.length-k=m->k<=list.length->more.length=k*v.length->(∀q,q∈more->q.kids.length=i+1/\wtL Pattern.wt q.kids<=S+(1+B))->
  ∃l,F.f152 p list i v more k=some l/\l.length=list.length*v.length/\∀q,q∈l->q.kids.length=i+1/\wtL Pattern.wt q.kids<=S+(1+B)
 |0,k,more,hm,hk,ho,hr=>by
  have:k=list.length:=by omega
  subst this
  rw[F.f152,if_neg (by omega)]
  exact⟨_,rfl,ho,hr⟩
 |m+1,k,more,hm,hk,ho,hr=>by
  have hkl:k<list.length:=by omega
  obtain⟨q1,q2⟩:=hq _ (gM hkl)
  have hmul:(k+1)*v.length<=list.length*v.length:=Nat.mul_le_mul_right _ hkl
  rw[Nat.add_mul,Nat.one_mul]at hmul
  rw[F.f152,if_pos hkl,gQ hkl]
  simp only[oE,oS]
  rw[P.Yi p list i v k list[k] (by omega) _ 0 more rfl (by omega)]
  simp only[oS]
  rw[if_pos (by omega)]
  refine P.YAU p list i v S hq hi B hv hb hll m (k+1) _ (by omega) (by omega) ?_ fun q h=> ?_
  ·rw[List.length_append,List.length_map,List.drop_zero,ho,Nat.add_mul,Nat.one_mul]
  ·rcases List.mem_append.1 h with h|h
   ·exact hr q h
   ·obtain⟨x,hx,rfl⟩:=List.mem_map.1 h
    rw[List.drop_zero]at hx
    have:=hv x hx
    refine⟨by simp[q1],?_⟩
    show wtL Pattern.wt (list[k].kids++[x])<=_
    have e:wtL Pattern.wt (list[k].kids++[x])=wtL Pattern.wt list[k].kids+(1+x.wt):=by simp[wtL];omega
    rw[e];omega
theorem P.YAl {w:List Data}:∀(d:Nat) (t:Ty) (p:Pattern),Zc w d t p->p.wt<=1048576->p.alts<=400->∃l,F.f153 p=some l/\l.length=p.alts/\∀q,q∈l->q.wt<=p.wt
 |0,_,_,h,_,_=>h.elim
 |d+1,t,p,⟨ho,hl,hk⟩,hw,ha=>by
  have hwk:∀i (h:i<p.kids.length),1+p.kids[i].wt<=p.wt:=fun i h=>by rw[p.wt_eq];exact ZAA Pattern.wt (gM h)
  have hkl:p.kids.length<=p.wt:=by rw[p.wt_eq];exact ZBg Pattern.wt p.kids
  have hsh:∀i (h:i<p.kids.length),∃u,Zc w d u p.kids[i]:=fun i h=>⟨_,hk i (Nat.zero_le _) (by omega) (by omega) h⟩
  have hpos:∀x,x∈p.kids.map Pattern.alts->1<=x:=fun x hx=>by
   obtain⟨k,hk2,rfl⟩:=List.mem_map.1 hx
   obtain⟨i,hi,rfl⟩:=List.getElem_of_mem hk2
   obtain⟨u,hu⟩:=hsh i hi
   exact ZC5 hu
  have e:=ZDe p
  rw[F.f153]
  by_cases h5:p.op=5
  ·rw[if_pos h5]at e ⊢
   have e5:=Zk ho h5
   have h2:p.kids.length=2:=by rw[hl,e5];rfl
   have es:p.alts=(p.kids[0]'(by omega)).alts+(p.kids[1]'(by omega)).alts:=by
    have e9:(([p.kids[0]'(by omega),p.kids[1]'(by omega)]:List Pattern).map Pattern.alts).sum=(p.kids[0]'(by omega)).alts+(p.kids[1]'(by omega)).alts:=by simp
    rw[←ZAz h2]at e9;rw[e];exact e9
   obtain⟨u0,s0⟩:=hsh 0 (by omega)
   obtain⟨u1,s1⟩:=hsh 1 (by omega)
   have w0:=hwk 0 (by omega)
   have w1:=hwk 1 (by omega)
   obtain⟨a,ea,la,pa⟩:=P.YAl d u0 _ s0 (by omega) (by omega)
   obtain⟨b,eb,lb,pb⟩:=P.YAl d u1 _ s1 (by omega) (by omega)
   rw[gQ (by omega),gQ (by omega)]
   simp only[oE,oS]
   rw[ea,eb]
   simp only[oS]
   rw[if_pos (by omega)]
   refine⟨_,rfl,by simp;omega,fun q hq=> ?_⟩
   rcases List.mem_append.1 hq with hq|hq
   ·have:=pa q hq;omega
   ·have:=pb q hq;omega
  ·rw[if_neg h5]at e ⊢
   have key:∀(m i:Nat) (list:List Pattern),p.kids.length-i=m->i<=p.kids.length->list.length=ZAG ((p.kids.map Pattern.alts).take i)->(∀q,q∈list->q.kids.length=i/\wtL Pattern.wt q.kids<=wtL Pattern.wt (p.kids.take i))->
     ∃l,F.f154 p list i=some l/\l.length=ZAG (p.kids.map Pattern.alts)/\∀q,q∈l->wtL Pattern.wt q.kids<=wtL Pattern.wt p.kids:=by
    intro m
    induction m with
    |zero=>
     intro i list hm hi hlen hq
     have:i=p.kids.length:=by omega
     subst this
     rw[F.f154,if_neg (by omega)]
     rw[List.take_of_length_le (by simp)]at hlen
     refine⟨_,rfl,hlen,fun q h=> ?_⟩
     have:=(hq q h).2
     rwa[List.take_length]at this
    |succ m ihm=>
     intro i list hm hi hlen hq
     have hik:i<p.kids.length:=by omega
     obtain⟨u,hu⟩:=hsh i hik
     have hm1:p.kids[i].alts<=ZAG (p.kids.map Pattern.alts):=ZFL hpos (List.mem_map.2 ⟨_,gM hik,rfl⟩)
     have hm2:=ZBN hpos i
     have hwi:=hwk i hik
     obtain⟨v,ev,lv,pv⟩:=P.YAl d u _ hu (by omega) (by omega)
     have hts:(p.kids.map Pattern.alts).take (i+1)=(p.kids.map Pattern.alts).take i++[p.kids[i].alts]:=by
      rw[List.take_succ_eq_append_getElem (by simpa using hik)];simp
     have hprod:list.length*v.length=ZAG ((p.kids.map Pattern.alts).take (i+1)):=by rw[hts,ZD4,hlen,lv]
     have hm3:=ZBN hpos (i+1)
     obtain⟨l,el,ll,pl⟩:=P.YAU p list i v (wtL Pattern.wt (p.kids.take i)) hq (by omega) p.kids[i].wt pv (by rw[hprod];omega) (by omega) _ 0 [] rfl (Nat.zero_le _) (by simp) (by simp)
     rw[F.f154,if_pos hik,gQ hik]
     simp only[oE,oS]
     rw[ev]
     simp only[oS]
     rw[el]
     simp only[oS]
     rw[if_pos (by omega)]
     refine ihm (i+1) l (by omega) (by omega) (by rw[ll,hprod]) fun q h=> ?_
     obtain⟨z1,z2⟩:=pl q h
     refine⟨z1,?_⟩
     rw[List.take_succ_eq_append_getElem hik]
     rw[ZLu];exact z2
   obtain⟨l,el,ll,pl⟩:=key _ 0 [⟨p.op,p.ctor,p.n,p.m,p.var,[]⟩] rfl (Nat.zero_le _) (by simp[ZAG]) (fun q h=>by rw[List.mem_singleton.1 h];simp)
   rw[el]
   refine⟨l,rfl,by rw[ll,e],fun q h=> ?_⟩
   rw[Pattern.wt_eq,p.wt_eq];exact pl q h
theorem P.YAX (list:List Pattern)(hl:list.length<=1048576)(hw:∀q,q∈list->q.wt<=67108864):F.f205 list=some list:=by
 have key:∀(m i:Nat) (out:List Pattern),list.length-i=m->i<=list.length->out=list.take i->F.f204 list out i=some list:=by
  intro m
  induction m with
  |zero=>intro i out hm hi ho;rw[F.f204,if_neg (by omega),ho,List.take_of_length_le (by omega)]
  |succ m ih=>
   intro i out hm hi ho
   have hil:i<list.length:=by omega
   rw[F.f204,if_pos hil,gQ hil]
   simp only[oE,oS]
   rw[P.Yg _ (hw _ (gM hil))]
   simp only[oS]
   rw[if_pos (by rw[ho,List.length_take];omega)]
   exact ih (i+1) _ (by omega) (by omega) (by rw[ho,List.take_succ_eq_append_getElem hil])
 unfold F.f205
 rw[key _ 0 [] rfl (Nat.zero_le _) (by simp)]
 rfl
theorem P.Ya (w:List Data)(hw:ZAH w)(t:Ty)(p:Pattern)(hp:p.wt<=1048576):F.f201 w t p=some (dec (ZAN w t/\ZAl w t p)):=by
 unfold F.f201
 rw[P.YO w t hw]
 simp only[oE,oS]
 by_cases h:ZAN w t
 ·rw[if_pos (ZG h),P.Ys w h.1 t h.2 p hp]
  simp only[oS]
  by_cases h2:ZAl w t p
  ·rw[ZG h2,ZG ⟨h,h2⟩]
  ·rw[ZF h2,ZF fun q=>h2 q.2]
 ·rw[if_neg (by rw[ZF h];decide),ZF fun q=>h q.1]
theorem P.YAQ (w:List Data)(hw:ZAH w)(t:Ty)(p:Pattern)(ht:ZAN w t)(hp:ZAl w t p):∃l,F.f206 w t p=some (l,decide (p.alts<=400))/\(p.alts<=400->l.length=p.alts):=by
 have h60:=hp.2.2
 unfold F.f206
 rw[P.Ya w hw t p (by omega),ZG ⟨ht,hp⟩]
 simp only[oE,oS]
 rw[if_pos True.intro,P.Yu]
 simp only[oS]
 by_cases ha:p.alts<=400
 ·rw[if_neg (by omega)]
  obtain⟨l,e,hl,hq⟩:=P.YAl 10 t p hp.1 (by omega) ha
  rw[e]
  simp only[oS]
  rw[P.YAX l (by omega) (fun q h=>by have:=hq q h;omega)]
  exact⟨l,by rw[decide_eq_true ha];rfl,fun _=>hl⟩
 ·rw[if_pos (by omega)]
  exact⟨[],by rw[decide_eq_false ha],fun q=>absurd q ha⟩
def ZAC {β:Type}(op:Int)(path:List Int):Nat->List (List Int->List β)->List β
 |_,[]=>[]
 |i,f::r=>f (if op=4 then path++[(i:Int)]else path)++ZAC op path (i+1) r
def Pattern.tst :Pattern->List Int->List Step
 |⟨op,ctor,n,m,_,kids⟩=>fun path=>(if op=3 then[(⟨1,path,-1,n,m,0,[],0⟩:Step)]else if op=4 then[⟨1,path,ctor,0,0,0,[],0⟩]else[])++ZAC op path 0 (kids.map fun k=>Pattern.tst k)
def Pattern.bnd :Pattern->List Int->List PathBind
 |⟨op,_,_,_,var,kids⟩=>fun path=>(if op=2∨op=6 then[(⟨var,path⟩:PathBind)]else[])++ZAC op path 0 (kids.map fun k=>Pattern.bnd k)
theorem ZHA (p:Pattern)(path:List Int):p.tst path=(if p.op=3 then[(⟨1,path,-1,p.n,p.m,0,[],0⟩:Step)]else if p.op=4 then[⟨1,path,p.ctor,0,0,0,[],0⟩]else[])++ZAC p.op path 0 (p.kids.map Pattern.tst):=by
 cases p;rw[Pattern.tst]
theorem ZEN (p:Pattern)(path:List Int):p.bnd path=(if p.op=2∨p.op=6 then[(⟨p.var,path⟩:PathBind)]else[])++ZAC p.op path 0 (p.kids.map Pattern.bnd):=by
 cases p;rw[Pattern.bnd]
theorem ZCT {β:Type}(op:Int)(g:Pattern->List Int->List β)(path:List Int):∀(l:List Pattern) (h:∀k,k∈l->∀path,(g k path).length<=1+k.wt) (i:Nat),(ZAC op path i (l.map g)).length<=wtL Pattern.wt l
 | [],h,i=>by simp[ZAC]
 |k::r,h,i=>by
  have h1:=h k (List.mem_cons_self ..) (if op=4 then path++[(i:Int)]else path)
  have h2:=ZCT op g path r (fun k hk=>h k (List.mem_cons_of_mem _ hk)) (i+1)
  rw[List.map_cons,ZAC,List.length_append,ZAv]
  omega
theorem ZC7 (p:Pattern):∀path,(p.tst path).length<=1+p.wt:=by
 induction p using Pattern.ind with
 |_ p ih=>
  intro path
  have h1:=ZCT p.op Pattern.tst path p.kids ih 0
  rw[ZHA,List.length_append,p.wt_eq]
  have h2:(if p.op=3 then[(⟨1,path,-1,p.n,p.m,0,[],0⟩:Step)]else if p.op=4 then[⟨1,path,p.ctor,0,0,0,[],0⟩]else[]).length<=1:=by
   split
   ·simp
   ·split<;>simp
  omega
theorem ZEx (p:Pattern):∀path,(p.bnd path).length<=1+p.wt:=by
 induction p using Pattern.ind with
 |_ p ih=>
  intro path
  have h1:=ZCT p.op Pattern.bnd path p.kids ih 0
  rw[ZEN,List.length_append,p.wt_eq]
  have h2:(if p.op=2∨p.op=6 then[(⟨p.var,path⟩:PathBind)]else[]).length<=1:=by split<;>simp
  omega
theorem ZDx {p:Pattern}{path:List Int}{L:List Step->List PathBind->Nat->Option (List Step×List PathBind)}
  (hL:∀o b i,L o b i=if i<p.kids.length then(p.kids[i]?)>>=fun x=>if p.op=4 then(F.f157 path)>>=fun v=>if v.length+1<=67108864 then(F.f158 x (v++[(i:Int)]) o b)>>=fun v15=>L v15.1 v15.2 (i+1)else none
   else(F.f158 x path o b)>>=fun v18=>L v18.1 v18.2 (i+1)else some (o,b))
  (ih:∀k,k∈p.kids->∀(path:List Int) o b,path.length+k.wt<=67108863->o.length+(1+k.wt)<=67108864->b.length+(1+k.wt)<=67108864->F.f158 k path o b=some (o++k.tst path,b++k.bnd path)) (hp:path.length+p.wt<=67108863):
  ∀(m i:Nat) (o:List Step) (b:List PathBind),p.kids.length-i=m->o.length+wtL Pattern.wt (p.kids.drop i)<=67108864->b.length+wtL Pattern.wt (p.kids.drop i)<=67108864->
   L o b i=some (o++ZAC p.op path i ((p.kids.drop i).map Pattern.tst),b++ZAC p.op path i ((p.kids.drop i).map Pattern.bnd))
 |0,i,o,b,hm,h1,h2=>by rw[hL,if_neg (by omega),List.drop_eq_nil_of_le (by omega)];simp[ZAC]
 |m+1,i,o,b,hm,h1,h2=>by
  have hi:i<p.kids.length:=by omega
  have hk:1+p.kids[i].wt<=p.wt:=by rw[p.wt_eq];exact ZAA Pattern.wt (gM hi)
  have ed:p.kids.drop i=p.kids[i]::p.kids.drop (i+1):=List.drop_eq_getElem_cons hi
  rw[ed,ZAv]at h1 h2
  have e:L o b i=(F.f158 p.kids[i] (if p.op=4 then path++[(i:Int)]else path) o b)>>=fun v15=>L v15.1 v15.2 (i+1):=by
   rw[hL,if_pos hi,gQ hi]
   simp only[oE,oS]
   by_cases h4:p.op=4
   ·rw[if_pos h4,if_pos h4,P.YH path (by omega)]
    simp only[oS]
    rw[if_pos (by omega)]
   ·rw[if_neg h4,if_neg h4]
  have hpl:(if p.op=4 then path++[(i:Int)]else path).length<=path.length+1:=by split<;>simp
  rw[e,ih _ (gM hi) _ o b (by omega) (by omega) (by omega)]
  simp only[oE,oS]
  have t1:=ZC7 p.kids[i] (if p.op=4 then path++[(i:Int)]else path)
  have t2:=ZEx p.kids[i] (if p.op=4 then path++[(i:Int)]else path)
  rw[ZDx hL ih hp m (i+1) _ _ (by omega) (by rw[List.length_append];omega) (by rw[List.length_append];omega),ed]
  simp only[List.map_cons,ZAC,List.append_assoc]
theorem P.YAd (p:Pattern):∀(path:List Int) (o:List Step) (b:List PathBind),path.length+p.wt<=67108863->o.length+(1+p.wt)<=67108864->b.length+(1+p.wt)<=67108864->F.f158 p path o b=some (o++p.tst path,b++p.bnd path):=by
 induction p using Pattern.ind with
 |_ p ih=>
  intro path o b h1 h2 h3
  have hw:=p.wt_eq
  have key:=fun(L:List Step->List PathBind->Nat->Option (List Step×List PathBind)) hL o b q1 q2=>ZDx (p:=p) (path:=path) (L:=L) hL ih h1 _ 0 o b rfl q1 q2
  simp only[List.drop_zero]at key
  rw[F.f158,P.YH path (by omega),ZHA,ZEN]
  simp only[oE,oS]
  by_cases c2:p.op=2
  ·rw[if_pos c2,if_pos (by omega),key (F.f159 p path) (fun o b i=>by rw[F.f159]) _ _ (by omega) (by simp;omega)]
   simp[c2]
  ·rw[if_neg c2]
   by_cases c6:p.op=6
   ·rw[if_pos c6,if_pos (by omega),key (F.f160 p path) (fun o b i=>by rw[F.f160]) _ _ (by omega) (by simp;omega)]
    simp[c6]
   ·rw[if_neg c6]
    by_cases c3:p.op=3
    ·rw[if_pos c3,if_pos (by omega),key (F.f161 p path) (fun o b i=>by rw[F.f161]) _ _ (by simp;omega) (by omega)]
     simp[c3]
    ·rw[if_neg c3]
     by_cases c4:p.op=4
     ·rw[if_pos c4,if_pos (by omega),key (F.f162 p path) (fun o b i=>by rw[F.f162]) _ _ (by simp;omega) (by omega)]
      simp[c4]
     ·rw[if_neg c4,key (F.f163 p path) (fun o b i=>by rw[F.f163]) _ _ (by omega) (by omega)]
      simp[c2,c3,c4,c6]
theorem ZDM (path:List Int)(i:Int)(h:path.length+1<=67108864):F.f183 path i=some (path++[i]):=by
 unfold F.f183
 rw[if_pos (by omega),if_pos h]
theorem ZHQ {p:Pattern}{path:List Int}(c4:p.op=4)(ih:∀k,k∈p.kids->∀(path:List Int) o,path.length+k.wt<=67108863->o.length+(1+k.wt)<=67108864->F.f184 o k path=some (o++k.tst path))(hp:path.length+p.wt<=67108863):
  ∀(m i:Nat) (o:List Step),p.kids.length-i=m->o.length+wtL Pattern.wt (p.kids.drop i)<=67108864->F.f185 p path o i=some (o++ZAC p.op path i ((p.kids.drop i).map Pattern.tst))
 |0,i,o,hm,h1=>by rw[F.f185,if_neg (by omega),List.drop_eq_nil_of_le (by omega)];simp[ZAC]
 |m+1,i,o,hm,h1=>by
  have hi:i<p.kids.length:=by omega
  have hk:1+p.kids[i].wt<=p.wt:=by rw[p.wt_eq];exact ZAA Pattern.wt (gM hi)
  have ed:p.kids.drop i=p.kids[i]::p.kids.drop (i+1):=List.drop_eq_getElem_cons hi
  rw[ed,ZAv]at h1
  rw[F.f185,if_pos hi,gQ hi]
  simp only[oE,oS]
  rw[ZDM path i (by omega)]
  simp only[oS]
  rw[ih _ (gM hi) _ o (by simp;omega) (by omega)]
  simp only[oS]
  have t1:=ZC7 p.kids[i] (path++[(i:Int)])
  rw[ZHQ c4 ih hp m (i+1) _ (by omega) (by rw[List.length_append];omega),ed]
  simp only[List.map_cons,ZAC,List.append_assoc,if_pos c4]
theorem ZKO {w:List Data}{d:Nat}{t:Ty}{p:Pattern}(h:ZHE w (d+1) t p)(h4:p.op≠4)(h6:p.op≠6):p.kids=[]:=by
 obtain⟨_,h5,hl,_⟩:=h
 unfold ZH at hl
 rw[if_neg h4,if_neg h5,if_neg h6]at hl
 exact List.eq_nil_of_length_eq_zero hl
theorem P.YAm (w:List Data):∀(d:Nat) (t:Ty) (p:Pattern),ZHE w d t p->∀(path:List Int) (o:List Step),path.length+p.wt<=67108863->o.length+(1+p.wt)<=67108864->F.f184 o p path=some (o++p.tst path)
 |0,_,_,h,_,_,_,_=>h.elim
 |d+1,t,p,hs,path,o,q1,q2=>by
  have nil:=ZKO hs
  obtain⟨h1,h5,hl,hk⟩:=hs
  have hw:=p.wt_eq
  have ih:∀k,k∈p.kids->∀(path:List Int) o,path.length+k.wt<=67108863->o.length+(1+k.wt)<=67108864->F.f184 o k path=some (o++k.tst path):=fun k hk' path o r1 r2=>by
   obtain⟨i,hi,rfl⟩:=List.mem_iff_getElem.1 hk'
   exact P.YAm w d _ _ (hk i (by omega) hi) path o r1 r2
  rw[F.f184,ZHA]
  by_cases c6:p.op=6
  ·have et:ZH w t p=[t]:=by unfold ZH;rw[if_neg (by omega),if_neg (by omega),if_pos c6]
   rw[et]at hl
   obtain⟨k,ek⟩:=List.length_eq_one_iff.1 hl
   have hwk:p.wt=1+k.wt:=by rw[hw,ek];simp[wtL]
   rw[if_pos c6,ek]
   simp only[List.getElem?_cons_zero,oE,oS]
   rw[ih k (by simp[ek]) path o (by omega) (by omega)]
   simp[c6,ZAC]
  ·rw[if_neg c6]
   by_cases c3:p.op=3
   ·rw[if_pos c3,if_pos (by omega),if_pos (by omega),nil (by omega) c6]
    simp[c3,ZAC]
   ·rw[if_neg c3]
    by_cases c4:p.op=4
    ·have key:=ZHQ c4 ih q1 _ 0 (o++[(⟨1,path,p.ctor,0,0,0,[],0⟩:Step)]) rfl (by rw[List.drop_zero];simp;omega)
     rw[List.drop_zero]at key
     rw[if_pos c4,if_pos (by omega),if_pos (by omega),key]
     simp[c4]
    ·rw[if_neg c4,nil c4 c6]
     simp[c3,c4,ZAC]
theorem ZHR {p:Pattern}{path:List Int}{L:List PathBind->Nat->Option (List PathBind)}
  (hL:∀o i,L o i=if i<p.kids.length then if p.op=4 then(F.f183 path (i:Int))>>=fun v=>(p.kids[i]?)>>=fun x=>(F.f186 o x v)>>=fun v15=>L v15 (i+1)
   else(p.kids[i]?)>>=fun x18=>(F.f186 o x18 path)>>=fun v20=>L v20 (i+1)else some o)
  (ih:∀k,k∈p.kids->∀(path:List Int) o,path.length+k.wt<=67108863->o.length+(1+k.wt)<=67108864->F.f186 o k path=some (o++k.bnd path)) (hp:path.length+p.wt<=67108863):
  ∀(m i:Nat) (o:List PathBind),p.kids.length-i=m->o.length+wtL Pattern.wt (p.kids.drop i)<=67108864->L o i=some (o++ZAC p.op path i ((p.kids.drop i).map Pattern.bnd))
 |0,i,o,hm,h1=>by rw[hL,if_neg (by omega),List.drop_eq_nil_of_le (by omega)];simp[ZAC]
 |m+1,i,o,hm,h1=>by
  have hi:i<p.kids.length:=by omega
  have hk:1+p.kids[i].wt<=p.wt:=by rw[p.wt_eq];exact ZAA Pattern.wt (gM hi)
  have ed:p.kids.drop i=p.kids[i]::p.kids.drop (i+1):=List.drop_eq_getElem_cons hi
  rw[ed,ZAv]at h1
  have e:L o i=(F.f186 o p.kids[i] (if p.op=4 then path++[(i:Int)]else path))>>=fun v15=>L v15 (i+1):=by
   rw[hL,if_pos hi,gQ hi]
   by_cases h4:p.op=4
   ·rw[if_pos h4,if_pos h4,ZDM path i (by omega)]
    simp only[oE,oS]
   ·rw[if_neg h4,if_neg h4]
    simp only[oE,oS]
  have hpl:(if p.op=4 then path++[(i:Int)]else path).length<=path.length+1:=by split<;>simp
  rw[e,ih _ (gM hi) _ o (by omega) (by omega)]
  simp only[oE,oS]
  have t2:=ZEx p.kids[i] (if p.op=4 then path++[(i:Int)]else path)
  rw[ZHR hL ih hp m (i+1) _ (by omega) (by rw[List.length_append];omega),ed]
  simp only[List.map_cons,ZAC,List.append_assoc]
theorem P.YA0 (p:Pattern):∀(path:List Int) (o:List PathBind),path.length+p.wt<=67108863->o.length+(1+p.wt)<=67108864->F.f186 o p path=some (o++p.bnd path):=by
 induction p using Pattern.ind with
 |_ p ih=>
  intro path o h1 h2
  have hw:=p.wt_eq
  have key:=fun(L:List PathBind->Nat->Option (List PathBind)) hL o q1=>ZHR (p:=p) (path:=path) (L:=L) hL ih h1 _ 0 o rfl q1
  simp only[List.drop_zero]at key
  rw[F.f186,ZEN]
  by_cases c2:p.op=2
  ·rw[if_pos c2,if_pos (by omega),if_pos (by omega),key (F.f189 p path) (fun o i=>by rw[F.f189]) _ (by simp;omega)]
   simp[c2]
  ·rw[if_neg c2]
   by_cases c6:p.op=6
   ·rw[if_pos c6,if_pos (by omega),if_pos (by omega),key (F.f187 p path) (fun o i=>by rw[F.f187]) _ (by simp;omega)]
    simp[c6]
   ·rw[if_neg c6,key (F.f188 p path) (fun o i=>by rw[F.f188]) _ (by omega)]
    simp[c2,c6]
theorem ZEC {w:List Data}{d:Nat}(op:Int)(path:List Int):∀(ts:List Ty) (ks:List Pattern) (j:Nat),ts.length=ks.length->(∀i (h:i<ts.length) (h':i<ks.length),∀path,(ks[i].bnd path).map PathBind.var=(ZT w d ts[i] ks[i]).map VarType.var)->
  (ZAC op path j (ks.map Pattern.bnd)).map PathBind.var=((ts.zip ks).flatMap fun x=>ZT w d x.1 x.2).map VarType.var
 | [],[],j,_,_=>rfl
 | [],_::_,_,h,_=>by simp at h
 |_::_,[],_,h,_=>by simp at h
 |t::ts,k::ks,j,hl,h=>by
  have h0:=h 0 (by simp) (by simp) (if op=4 then path++[(j:Int)]else path)
  have h1:=ZEC op path ts ks (j+1) (by simpa using hl) fun i hi hi' path=>by have:=h (i+1) (by simpa using hi) (by simpa using hi') path;simpa using this
  rw[List.map_cons,ZAC,List.map_append,h1,List.zip_cons_cons,List.flatMap_cons,List.map_append]
  congr 1
theorem ZHV (w:List Data):∀(d:Nat) (t:Ty) (q:Pattern),ZHE w d t q->∀path,(q.bnd path).map PathBind.var=(ZT w d t q).map VarType.var
 |0,_,_,h,_=>h.elim
 |d+1,t,q,⟨h1,h5,hl,hk⟩,path=>by
  rw[ZEN,ZT,if_neg h5,List.take_of_length_le (by simp;omega),List.map_append,List.map_append,ZEC (w:=w) (d:=d) q.op path (ZH w t q) q.kids 0 hl.symm fun i hi hi' path=>ZHV w d _ _ (hk i hi hi') path]
  congr 1
  by_cases c:q.op=2∨q.op=6
  ·rw[if_pos c,if_pos c];rfl
  ·rw[if_neg c,if_neg c];rfl
def ZAe (list v:List Pattern):List Pattern:=list.flatMap fun q=>v.map fun x=>⟨q.op,q.ctor,q.n,q.m,q.var,q.kids++[x]⟩
def Pattern.splits :Pattern->List Pattern
 |⟨op,ctor,n,m,var,kids⟩=>if op=5 then(kids.map fun k=>Pattern.splits k).flatten else(kids.map fun k=>Pattern.splits k).foldl ZAe [⟨op,ctor,n,m,var,[]⟩]
theorem ZB1 (p:Pattern):p.splits=if p.op=5 then(p.kids.map Pattern.splits).flatten else(p.kids.map Pattern.splits).foldl ZAe [⟨p.op,p.ctor,p.n,p.m,p.var,[]⟩]:=by
 cases p;rw[Pattern.splits]
theorem ZET (list v:List Pattern):(ZAe list v).length=list.length*v.length:=by
 unfold ZAe
 induction list with
 |nil=>simp
 |cons q r ih=>rw[List.flatMap_cons,List.length_append,ih,List.length_map,List.length_cons,Nat.add_mul,Nat.one_mul,Nat.add_comm]
theorem ZFg :∀(vs:List (List Pattern)) (list:List Pattern),(vs.foldl ZAe list).length=list.length*ZAG (vs.map List.length)
 | [],list=>by simp[ZAG]
 |v::vs,list=>by rw[List.foldl_cons,ZFg vs,ZET,List.map_cons,ZAG,Nat.mul_assoc]
theorem Zx (p:Pattern):p.splits.length=p.alts:=by
 induction p using Pattern.ind with
 |_ p ih=>
  have e:(p.kids.map Pattern.splits).map List.length=p.kids.map Pattern.alts:=by
   rw[List.map_map]
   exact List.map_congr_left ih
  rw[ZB1,ZDe]
  by_cases h5:p.op=5
  ·rw[if_pos h5,if_pos h5,List.length_flatten,e]
  ·rw[if_neg h5,if_neg h5,ZFg,e];simp
theorem ZFf {G:Nat->Pattern->Prop}{p:Pattern}:∀(vs:List (List Pattern)) (i:Nat) (list:List Pattern) (hv:∀k (h:k<vs.length) x,x∈vs[k]->G (i+k) x)
  (hl:∀q,q∈list->q=⟨p.op,p.ctor,p.n,p.m,p.var,q.kids⟩/\q.kids.length=i/\∀k (h:k<q.kids.length),G k q.kids[k]) (q:Pattern) (hq:q∈vs.foldl ZAe list),
  q=⟨p.op,p.ctor,p.n,p.m,p.var,q.kids⟩/\q.kids.length=i+vs.length/\∀k (h:k<q.kids.length),G k q.kids[k]
 | [],i,list,hv,hl,q,hq=>hl q hq
 |v::vs,i,list,hv,hl,q,hq=>by
  rw[List.foldl_cons]at hq
  have:=ZFf vs (i+1) (ZAe list v) (fun k h x hx=>by have:=hv (k+1) (by simpa using h) x (by simpa using hx);rw[show i+(k+1)=i+1+k by omega]at this;exact this) (fun q hq=>by
   obtain⟨q0,h0,hq⟩:=List.mem_flatMap.1 hq
   obtain⟨x,hx,rfl⟩:=List.mem_map.1 hq
   obtain⟨e1,e2,e3⟩:=hl q0 h0
   have f1:q0.op=p.op:=by rw[e1]
   have f2:q0.ctor=p.ctor:=by rw[e1]
   have f3:q0.n=p.n:=by rw[e1]
   have f4:q0.m=p.m:=by rw[e1]
   have f5:q0.var=p.var:=by rw[e1]
   refine⟨?_,by simp[e2],fun k hk=> ?_⟩
   ·show(⟨q0.op,q0.ctor,q0.n,q0.m,q0.var,q0.kids++[x]⟩:Pattern)=⟨p.op,p.ctor,p.n,p.m,p.var,q0.kids++[x]⟩
    rw[f1,f2,f3,f4,f5]
   ·by_cases hk':k<q0.kids.length
    ·show G k (q0.kids++[x])[k]
     rw[List.getElem_append_left hk'];exact e3 k hk'
    ·have:k=i:=by simp at hk;omega
     subst this
     show G k (q0.kids++[x])[k]
     rw[List.getElem_append_right (by omega)]
     have:=hv 0 (by simp) x (by simpa using hx)
     simpa[e2]using this) q hq
  refine⟨this.1,?_,this.2.2⟩
  rw[this.2.1,List.length_cons];omega
theorem P.YAE (p:Pattern)(list:List Pattern)(i:Nat)(v:List Pattern)(hq:∀q,q∈list->q.kids.length<=1048576)(hb:list.length*v.length<=60000000)(hll:list.length<=1048576):
  ∀(m k:Nat) (more:List Pattern),list.length-k=m->k<=list.length->more.length=k*v.length->F.f152 p list i v more k=some (more++ZAe (list.drop k) v)
 |0,k,more,hm,hk,ho=>by
  rw[F.f152,if_neg (by omega),List.drop_eq_nil_of_le (by omega)]
  simp[ZAe]
 |m+1,k,more,hm,hk,ho=>by
  have hkl:k<list.length:=by omega
  have hmul:(k+1)*v.length<=list.length*v.length:=Nat.mul_le_mul_right _ hkl
  rw[Nat.add_mul,Nat.one_mul]at hmul
  rw[F.f152,if_pos hkl,gQ hkl]
  simp only[oE,oS]
  rw[P.Yi p list i v k list[k] (hq _ (gM hkl)) _ 0 more rfl (by omega)]
  simp only[oS]
  rw[if_pos (by omega),P.YAE p list i v hq hb hll m (k+1) _ (by omega) (by omega) (by rw[List.length_append,List.length_map,List.drop_zero,ho,Nat.add_mul,Nat.one_mul]),List.drop_eq_getElem_cons hkl,List.drop_zero]
  simp only[ZAe,List.flatMap_cons,List.append_assoc]
theorem P.YAJ {w:List Data}:∀(d:Nat) (t:Ty) (p:Pattern),Zc w d t p->p.wt<=1048576->p.alts<=400->F.f153 p=some p.splits
 |0,_,_,h,_,_=>h.elim
 |d+1,t,p,⟨ho,hl,hk⟩,hw,ha=>by
  have hwk:∀i (h:i<p.kids.length),1+p.kids[i].wt<=p.wt:=fun i h=>by rw[p.wt_eq];exact ZAA Pattern.wt (gM h)
  have hkl:p.kids.length<=p.wt:=by rw[p.wt_eq];exact ZBg Pattern.wt p.kids
  have hsh:∀i (h:i<p.kids.length),∃u,Zc w d u p.kids[i]:=fun i h=>⟨_,hk i (Nat.zero_le _) (by omega) (by omega) h⟩
  have hpos:∀x,x∈p.kids.map Pattern.alts->1<=x:=fun x hx=>by
   obtain⟨k,hk2,rfl⟩:=List.mem_map.1 hx
   obtain⟨i,hi,rfl⟩:=List.getElem_of_mem hk2
   obtain⟨u,hu⟩:=hsh i hi
   exact ZC5 hu
  have e:=ZDe p
  rw[F.f153,ZB1]
  by_cases h5:p.op=5
  ·rw[if_pos h5]at e ⊢
   rw[if_pos h5]
   have e5:=Zk ho h5
   have h2:p.kids.length=2:=by rw[hl,e5];rfl
   have e2:p.kids=[p.kids[0]'(by omega),p.kids[1]'(by omega)]:=ZAz h2
   have es:p.alts=(p.kids[0]'(by omega)).alts+(p.kids[1]'(by omega)).alts:=by
    have e9:(([p.kids[0]'(by omega),p.kids[1]'(by omega)]:List Pattern).map Pattern.alts).sum=(p.kids[0]'(by omega)).alts+(p.kids[1]'(by omega)).alts:=by simp
    rw[←ZAz h2]at e9;rw[e];exact e9
   obtain⟨u0,s0⟩:=hsh 0 (by omega)
   obtain⟨u1,s1⟩:=hsh 1 (by omega)
   have w0:=hwk 0 (by omega)
   have w1:=hwk 1 (by omega)
   have ea:=P.YAJ d u0 _ s0 (by omega) (by omega)
   have eb:=P.YAJ d u1 _ s1 (by omega) (by omega)
   have la:=Zx (p.kids[0]'(by omega))
   have lb:=Zx (p.kids[1]'(by omega))
   have es2:(p.kids.map Pattern.splits).flatten=(p.kids[0]'(by omega)).splits++(p.kids[1]'(by omega)).splits:=by
    have e9:(([p.kids[0]'(by omega),p.kids[1]'(by omega)]:List Pattern).map Pattern.splits).flatten=(p.kids[0]'(by omega)).splits++(p.kids[1]'(by omega)).splits:=by simp
    rw[←ZAz h2]at e9;exact e9
   rw[gQ (by omega),gQ (by omega)]
   simp only[oE,oS]
   rw[ea,eb]
   simp only[oS]
   rw[if_pos (by omega),es2]
  ·rw[if_neg h5]at e ⊢
   rw[if_neg h5]
   have key:∀(m i:Nat) (list:List Pattern),p.kids.length-i=m->i<=p.kids.length->list.length=ZAG ((p.kids.map Pattern.alts).take i)->(∀q,q∈list->q.kids.length=i)->
     F.f154 p list i=some (((p.kids.map Pattern.splits).drop i).foldl ZAe list):=by
    intro m
    induction m with
    |zero=>
     intro i list hm hi hlen hq
     rw[F.f154,if_neg (by omega),List.drop_eq_nil_of_le (by simp;omega)]
     rfl
    |succ m ihm=>
     intro i list hm hi hlen hq
     have hik:i<p.kids.length:=by omega
     obtain⟨u,hu⟩:=hsh i hik
     have hm1:p.kids[i].alts<=ZAG (p.kids.map Pattern.alts):=ZFL hpos (List.mem_map.2 ⟨_,gM hik,rfl⟩)
     have hm2:=ZBN hpos i
     have hwi:=hwk i hik
     have ev:=P.YAJ d u _ hu (by omega) (by omega)
     have lv:=Zx p.kids[i]
     have hts:(p.kids.map Pattern.alts).take (i+1)=(p.kids.map Pattern.alts).take i++[p.kids[i].alts]:=by
      rw[List.take_succ_eq_append_getElem (by simpa using hik)];simp
     have hprod:list.length*p.kids[i].splits.length=ZAG ((p.kids.map Pattern.alts).take (i+1)):=by rw[hts,ZD4,hlen,lv]
     have hm3:=ZBN hpos (i+1)
     have el:=P.YAE p list i p.kids[i].splits (fun q h=>by rw[hq q h];omega) (by rw[hprod];omega) (by omega) _ 0 [] rfl (Nat.zero_le _) (by simp)
     rw[List.nil_append,List.drop_zero]at el
     rw[F.f154,if_pos hik,gQ hik]
     simp only[oE,oS]
     rw[ev]
     simp only[oS]
     rw[el]
     simp only[oS]
     rw[if_pos (by omega),ihm (i+1) _ (by omega) (by omega) (by rw[ZET,hprod]) fun q h=>by
      obtain⟨q0,h0,h⟩:=List.mem_flatMap.1 h
      obtain⟨x,_,rfl⟩:=List.mem_map.1 h
      simp[hq q0 h0]]
     rw[List.drop_eq_getElem_cons (show i<(p.kids.map Pattern.splits).length by simpa using hik),List.foldl_cons,List.getElem_map]
   have k0:=key _ 0 [⟨p.op,p.ctor,p.n,p.m,p.var,[]⟩] rfl (Nat.zero_le _) (by simp[ZAG]) (fun q h=>by rw[List.mem_singleton.1 h];rfl)
   rw[k0,List.drop_zero]
   rfl
theorem ZG4 {f:Ty×Pattern->List VarType}:∀(ts:List Ty) (qs ks:List Pattern),qs.length=ts.length->ks.length=ts.length->(∀i (h:i<ts.length) (h1:i<qs.length) (h2:i<ks.length),((f (ts[i],qs[i])).map VarType.var).Perm ((f (ts[i],ks[i])).map VarType.var))->
  (((ts.zip qs).flatMap f).map VarType.var).Perm (((ts.zip ks).flatMap f).map VarType.var)
 | [],_,_,_,_,_=>by simp
 |t::ts,[],_,h,_,_=>by simp at h
 |t::ts,_::_,[],_,h,_=>by simp at h
 |t::ts,q::qs,k::ks,h1,h2,h=>by
  have h0:=h 0 (by simp) (by simp) (by simp)
  have hr:=ZG4 ts qs ks (by simpa using h1) (by simpa using h2) fun i a b c=>by have:=h (i+1) (by simpa using a) (by simpa using b) (by simpa using c);simpa using this
  rw[List.zip_cons_cons,List.zip_cons_cons,List.flatMap_cons,List.flatMap_cons,List.map_append,List.map_append]
  exact List.Perm.append h0 hr
theorem ZHo {a b:List VarType}(ha:ZF4 a)(h:ZGF a b):(a.map VarType.var).Perm (b.map VarType.var):=by
 obtain⟨hl,hs⟩:=h
 have sub:∀l l':List VarType,l.length=l'.length->l.Nodup->(∀x,x∈l->x∈l')->l.Perm l':=by
  intro l
  induction l with
  |nil=>intro l' h _ _;rw[List.eq_nil_of_length_eq_zero (l:=l') (by simpa using h.symm)]
  |cons x r ih=>
   intro l' h hn hs
   obtain⟨s,t,rfl⟩:=List.append_of_mem (hs x (List.mem_cons_self ..))
   rw[List.nodup_cons]at hn
   refine((ih (s++t) (by simp at h ⊢;omega) hn.2 fun y hy=> ?_).cons x).trans List.perm_middle.symm
   have:=hs y (List.mem_cons_of_mem _ hy)
   simp only[List.mem_append,List.mem_cons]at this ⊢
   rcases this with h|rfl|h
   ·exact .inl h
   ·exact absurd hy hn.1
   ·exact .inr h
 have hn:a.Nodup:=by
  unfold ZF4 at ha
  exact List.Pairwise.of_map VarType.var (fun a b h e=>h (congrArg _ e)) ha
 exact(sub a b hl hn hs).map _
theorem ZLc {f g:Ty×Pattern->List VarType}:∀(ts:List Ty) (ks:List Pattern),ks.length=ts.length->(∀i (h:i<ts.length) (h2:i<ks.length),f (ts[i],ks[i])=g (ts[i],ks[i]))->(ts.zip ks).flatMap f=(ts.zip ks).flatMap g
 | [],_,_,_=>by simp
 |t::ts,[],h,_=>by simp at h
 |t::ts,k::ks,h2,h=>by
  have h0:=h 0 (by simp) (by simp)
  have hr:=ZLc ts ks (by simpa using h2) fun i a c=>by have:=h (i+1) (by simpa using a) (by simpa using c);simpa using this
  rw[List.zip_cons_cons,List.flatMap_cons,List.flatMap_cons,hr]
  congr 1
theorem ZCR {w:List Data}:∀(d:Nat) (t:Ty) (q:Pattern),ZHE w d t q->ZT w (d+1) t q=ZT w d t q
 |0,_,_,h=>h.elim
 |d+1,t,q,⟨h1,h5,hl,hk⟩=>by
  rw[ZT,ZT,if_neg h5,List.take_of_length_le (by simp;omega)]
  congr 1
  exact ZLc _ _ hl fun i h h2=>ZCR d _ _ (hk i h h2)
theorem ZB0 {w:List Data}:∀(d:Nat) (t:Ty) (p:Pattern),Zc w d t p->ZE2 w d t p->∀q,q∈p.splits->ZHE w d t q/\((ZT w d t q).map VarType.var).Perm ((ZT w d t p).map VarType.var)/\q.wt<=p.wt
 |0,_,_,h,_,_,_=>h.elim
 |d+1,t,p,⟨ho,hl,hk⟩,⟨hlk,hlin⟩,q,hq=>by
  have hwk:∀i (h:i<p.kids.length),1+p.kids[i].wt<=p.wt:=fun i h=>by rw[p.wt_eq];exact ZAA Pattern.wt (gM h)
  have ih:∀i (h:i<(ZH w t p).length) (h':i<p.kids.length) q,q∈p.kids[i].splits->ZHE w d (ZH w t p)[i] q/\((ZT w d (ZH w t p)[i] q).map VarType.var).Perm ((ZT w d (ZH w t p)[i] p.kids[i]).map VarType.var)/\q.wt<=p.kids[i].wt:=
   fun i h h' q hq=>ZB0 d _ _ (hk i (Nat.zero_le _) h h h') (hlk i (Nat.zero_le _) h h h') q hq
  rw[ZB1]at hq
  by_cases h5:p.op=5
  ·rw[if_pos h5]at hq hlin
   have et:=Zk ho h5
   have h2:p.kids.length=2:=by rw[hl,et];rfl
   have ev:=ZC1 (d:=d) ho h5 (by omega)
   have es2:(p.kids.map Pattern.splits).flatten=(p.kids[0]'(by omega)).splits++(p.kids[1]'(by omega)).splits:=by
    have e9:(([p.kids[0]'(by omega),p.kids[1]'(by omega)]:List Pattern).map Pattern.splits).flatten=(p.kids[0]'(by omega)).splits++(p.kids[1]'(by omega)).splits:=by simp
    rw[←ZAz h2]at e9;exact e9
   rw[es2]at hq
   have hall:∀x,x∈ZH w t p->x=t:=by rw[et];simp
   have t0:∀i (h:i<(ZH w t p).length),(ZH w t p)[i]=t:=fun i h=>hall _ (gM h)
   have i0:=ih 0 (by omega) (by omega)
   have i1:=ih 1 (by omega) (by omega)
   have s0:=hk 0 (Nat.zero_le _) (by omega) (by omega) (by omega)
   have l0:=hlk 0 (Nat.zero_le _) (by omega) (by omega) (by omega)
   have s1:=hk 1 (Nat.zero_le _) (by omega) (by omega) (by omega)
   have l1:=hlk 1 (Nat.zero_le _) (by omega) (by omega) (by omega)
   rw[t0]at i0 i1 s0 l0 s1 l1
   have w0:=hwk 0 (by omega)
   have w1:=hwk 1 (by omega)
   rcases List.mem_append.1 hq with hq|hq
   ·obtain⟨a1,a2,a3⟩:=i0 q hq
    exact⟨ZDB a1,by rw[ZCR d t q a1,ev];exact a2,by omega⟩
   ·obtain⟨a1,a2,a3⟩:=i1 q hq
    refine⟨ZDB a1,?_,by omega⟩
    rw[ZCR d t q a1,ev]
    exact a2.trans (ZHo (ZBO s0 l0) (hlin (by omega) (by omega))).symm
  ·rw[if_neg h5]at hq
   obtain⟨e1,e2,e3⟩:=ZFf (G:=fun k x=>∀h:k<p.kids.length,x∈p.kids[k].splits) (p:=p) _ 0 _ (fun k h x hx h'=>by
    have e:(0+k)=k:=Nat.zero_add k
    simp only[List.getElem_map]at hx
    simpa only[e]using hx) (fun q hq=>by rw[List.mem_singleton.1 hq];exact⟨rfl,rfl,fun k h=>absurd h (by simp)⟩) q hq
   rw[List.length_map,Nat.zero_add]at e2
   have eo:q.op=p.op:=by rw[e1]
   have ec:q.ctor=p.ctor:=by rw[e1]
   have en:q.n=p.n:=by rw[e1]
   have em:q.m=p.m:=by rw[e1]
   have ew:q.var=p.var:=by rw[e1]
   have ety:ZH w t q=ZH w t p:=by unfold ZH;rw[eo,ec]
   have eow:ZAn w t q:=by unfold ZAn at ho ⊢;rw[eo,ec,en,em,ew];exact ho
   have ihq:∀i (h:i<(ZH w t p).length) (h1:i<q.kids.length) (h':i<p.kids.length),ZHE w d (ZH w t p)[i] q.kids[i]/\((ZT w d (ZH w t p)[i] q.kids[i]).map VarType.var).Perm ((ZT w d (ZH w t p)[i] p.kids[i]).map VarType.var)/\q.kids[i].wt<=p.kids[i].wt:=
    fun i h h1 h'=>ih i h h' _ (e3 i h1 h')
   refine⟨⟨eow,by omega,by rw[ety];omega,fun i h h'=> ?_⟩,?_,?_⟩
   ·have:=(ihq i (by rw[←ety];exact h) h' (by omega)).1
    simpa only[ety]using this
   ·have vp:ZT w (d+1) t p=(if p.op=2∨p.op=6 then[⟨p.var,t⟩]else[])++((ZH w t p).zip p.kids).flatMap fun x=>ZT w d x.1 x.2:=by
     rw[ZT,if_neg h5,List.take_of_length_le (by rw[List.length_zip];omega)]
    have vq:ZT w (d+1) t q=(if p.op=2∨p.op=6 then[⟨p.var,t⟩]else[])++((ZH w t p).zip q.kids).flatMap fun x=>ZT w d x.1 x.2:=by
     rw[ZT,if_neg (show ¬q.op=5 by omega),List.take_of_length_le (by rw[List.length_zip];omega),ety,eo,ew]
    rw[vp,vq,List.map_append,List.map_append]
    exact(ZG4 _ _ _ (by omega) hl fun i h h1 h2=>(ihq i h h1 h2).2.1).append_left _
   ·rw[q.wt_eq,p.wt_eq]
    exact ZIl (by omega) fun i h h'=>(ihq i (by omega) h h').2.2
theorem ZE8 {w:List Data}{d:Nat}{t:Ty}{p:Pattern}(h1:Zc w d t p)(h2:ZE2 w d t p){q:Pattern}(hq:q∈p.splits)(path:List Int):((q.bnd path).map PathBind.var).Nodup:=by
 obtain⟨s1,s2,_⟩:=ZB0 d t p h1 h2 q hq
 rw[ZHV w d t q s1 path]
 exact s2.nodup_iff.2 (ZBO h1 h2)
/-! The reference cuts a pattern's choices off at 401. -/
theorem ZA8 {α:Type}(n:Nat)(a b:List α):((a.take n)++b).take n=(a++b).take n:=by
 rw[List.take_append,List.take_append,List.take_take,Nat.min_self]
 by_cases h:a.length<=n
 ·rw[List.take_of_length_le h]
 ·rw[List.length_take]
  rw[show n-min n a.length=0 by omega,show n-a.length=0 by omega]
theorem P.YAh {lists:List (List Pattern)}{i:Nat}(hi:i<lists.length){out:List (List Pattern)}{k:Nat}(hk:k<out.length)(hR:out[k].length<=1048576)(hx:lists[i].length<=401):
  ∀(m j:Nat) (next:List (List Pattern)),lists[i].length-j=m->next.length<=401->F.f176 lists out i k next j=some ((next++(lists[i].drop j).map fun x=>out[k]++[x]).take 401)
 |m,j,next,hm,hn=>by
  rw[F.f176,gQ hi]
  simp only[oE,oS]
  by_cases hj:j<lists[i].length
  ·rw[if_pos hj]
   by_cases h4:next.length<=400
   ·rw[if_pos h4,gQ hk]
    simp only[oS]
    rw[if_pos (by omega),gQ hj]
    simp only[oS]
    rw[if_pos (by omega),if_pos (by omega),if_pos (by omega)]
    match m,hm with
    |0,hm=>omega
    |m+1,hm=>
     rw[P.YAh hi hk hR hx m (j+1) _ (by omega) (by simp;omega),List.drop_eq_getElem_cons hj,List.map_cons,List.append_assoc]
     rfl
   ·rw[if_neg h4,List.take_append_of_le_length (by omega),List.take_of_length_le (by omega)]
  ·rw[if_neg hj,List.drop_eq_nil_of_le (by omega),List.map_nil,List.append_nil,List.take_of_length_le (by omega)]
def addT (out:List (List Pattern))(v:List Pattern):List (List Pattern):=out.flatMap fun x=>v.map fun y=>x++[y]
theorem P.YAi {lists:List (List Pattern)}{i:Nat}(hi:i<lists.length){out:List (List Pattern)}(ho:out.length<=401)(hR:∀x,x∈out->x.length<=1048576)(hx:lists[i].length<=401):
  ∀(m k:Nat) (next:List (List Pattern)),out.length-k=m->next.length<=401->F.f177 lists out i next k=some ((next++addT (out.drop k) lists[i]).take 401)
 |m,k,next,hm,hn=>by
  rw[F.f177]
  by_cases hk:k<out.length
  ·rw[if_pos hk]
   by_cases h4:next.length<=400
   ·rw[if_pos h4,P.YAh hi hk (hR _ (gM hk)) hx _ 0 next rfl hn]
    simp only[oE,oS]
    rw[if_pos (by omega)]
    match m,hm with
    |0,hm=>omega
    |m+1,hm=>
     rw[P.YAi hi ho hR hx m (k+1) _ (by omega) (by rw[List.length_take];omega),ZA8,List.drop_zero,List.drop_eq_getElem_cons hk]
     simp only[addT,List.flatMap_cons,List.append_assoc]
   ·rw[if_neg h4,List.take_append_of_le_length (by omega),List.take_of_length_le (by omega)]
  ·rw[if_neg hk,List.drop_eq_nil_of_le (by omega)]
   simp only[addT,List.flatMap_nil,List.append_nil]
   rw[List.take_of_length_le (by omega)]
theorem ZE5 {α β:Type}{f:α->List β}(hf:∀x,f x≠[])(n:Nat):∀l:List α,((l.take n).flatMap f).take n=(l.flatMap f).take n:=by
 have key:∀(l:List α) (n m:Nat),m<=n->((l.take n).flatMap f).take m=(l.flatMap f).take m:=by
  intro l
  induction l with
  |nil=>intro n m _;simp
  |cons x r ih=>
   intro n m hm
   cases n with
   |zero=>
    have:m=0:=by omega
    subst this;simp
   |succ n=>
    rw[List.take_succ_cons,List.flatMap_cons,List.flatMap_cons,List.take_append,List.take_append,ih n (m- (f x).length) (by have:=List.length_pos_iff.2 (hf x);omega)]
 exact fun l=>key l n n (Nat.le_refl _)
theorem ZDy {α β γ:Type}(g:α->β->γ)(n:Nat)(v:List β):∀(l:List α) (m:Nat),m<=n->(l.flatMap fun x=>(v.take n).map (g x)).take m=(l.flatMap fun x=>v.map (g x)).take m
 | [],m,_=>by simp
 |x::r,m,hm=>by
  rw[List.flatMap_cons,List.flatMap_cons,List.take_append,List.take_append,List.length_map,List.length_map,List.length_take,←List.map_take,←List.map_take,List.take_take,Nat.min_eq_left hm]
  by_cases h:v.length<=n
  ·rw[Nat.min_eq_right h,ZDy g n v r _ (by omega)]
  ·rw[show m-min n v.length=0 by omega,show m-v.length=0 by omega]
   simp
theorem ZJ3 {v:List Pattern}(hv:v≠[])(out:List (List Pattern)):(addT (out.take 401) (v.take 401)).take 401=(addT out v).take 401:=by
 unfold addT
 rw[ZDy (fun(x:List Pattern) y=>x++[y]) 401 v _ 401 (Nat.le_refl _),ZE5 (fun x h=>hv (List.map_eq_nil_iff.1 h))]
theorem P.YAj {Ls:List (List Pattern)}(hb:Ls.length<=1048576)(hne:∀L,L∈Ls->L≠[]):
  ∀(m i:Nat) (out:List (List Pattern)),Ls.length-i=m->(∀x,x∈out->x.length=i)->i<=Ls.length->F.f178 (Ls.map fun L=>L.take 401) (out.take 401) i=some (((Ls.drop i).foldl addT out).take 401)
 |m,i,out,hm,hR,hi=>by
  rw[F.f178]
  by_cases h:i<Ls.length
  ·have h':i<(Ls.map fun L=>L.take 401).length:=by simpa using h
   have ei:(Ls.map fun L=>L.take 401)[i]=Ls[i].take 401:=List.getElem_map ..
   rw[if_pos h',P.YAi h' (by rw[List.length_take];omega) (fun x hx=>by rw[hR x (List.mem_of_mem_take hx)];omega) (by rw[ei,List.length_take];omega) _ 0 [] rfl (by simp)]
   simp only[oE,oS,List.nil_append,List.drop_zero]
   rw[if_pos (by omega),ei,ZJ3 (hne _ (gM h))]
   match m,hm with
   |0,hm=>omega
   |m+1,hm=>
    rw[P.YAj hb hne m (i+1) _ (by omega) (fun x hx=>by
     obtain⟨y,hy,hx⟩:=List.mem_flatMap.1 hx
     obtain⟨z,_,rfl⟩:=List.mem_map.1 hx
     simp[hR y hy]) (by omega),List.drop_eq_getElem_cons h,List.foldl_cons]
  ·rw[if_neg (by simpa using h),List.drop_eq_nil_of_le (by omega)]
   rfl
theorem ZEG (mk:List Pattern->Pattern)(hmk:∀q,mk q=⟨(mk q).op,(mk q).ctor,(mk q).n,(mk q).m,(mk q).var,q⟩)(hmk2:∀a b,(⟨(mk a).op,(mk a).ctor,(mk a).n,(mk a).m,(mk a).var,b⟩:Pattern)=mk b)(hk:∀a,(mk a).kids=a):
  ∀(Ls:List (List Pattern)) (out:List (List Pattern)),Ls.foldl ZAe (out.map mk)=(Ls.foldl addT out).map mk
 | [],out=>rfl
 |L::Ls,out=>by
  have e:ZAe (out.map mk) L=(addT out L).map mk:=by
   unfold ZAe addT
   rw[List.flatMap_map,List.map_flatMap]
   refine congrArg (fun f=>out.flatMap f) (funext fun x=> ?_)
   rw[List.map_map]
   refine List.map_congr_left fun y _=> ?_
   show(⟨(mk x).op,(mk x).ctor,(mk x).n,(mk x).m,(mk x).var,(mk x).kids++[y]⟩:Pattern)=mk (x++[y])
   rw[hk,hmk2]
  rw[List.foldl_cons,List.foldl_cons,e,ZEG mk hmk hmk2 hk Ls]
theorem P.YAF (p:Pattern)(h:∀i (h:i<p.kids.length),F.f181 p.kids[i]=some (p.kids[i].splits.take 401))(hk:p.kids.length<=67108863):
  ∀(m i:Nat) (out:List (List Pattern)),p.kids.length-i=m->out.length=i->F.f182 p out i=some (out++(p.kids.drop i).map fun k=>k.splits.take 401)
 |0,i,out,hm,ho=>by rw[F.f182,if_neg (by omega),List.drop_eq_nil_of_le (by omega)];simp
 |m+1,i,out,hm,ho=>by
  have hi':i<p.kids.length:=by omega
  rw[F.f182,if_pos hi',gQ hi']
  simp only[oE,oS]
  rw[h i hi']
  simp only[oS]
  rw[if_pos (by omega),P.YAF p h hk m (i+1) _ (by omega) (by simp[ho]),List.drop_eq_getElem_cons hi',List.map_cons,List.append_assoc]
  rfl
theorem P.Yq (w:List Data):∀(d:Nat) (t:Ty) (p:Pattern),Zc w d t p->p.wt<=1048576->F.f181 p=some (p.splits.take 401)
 |0,_,_,h,_=>h.elim
 |d+1,t,p,⟨h1,h2,h3⟩,hw=>by
  have hwk:∀i (h:i<p.kids.length),1+p.kids[i].wt<=p.wt:=fun i h=>by rw[p.wt_eq];exact ZAA Pattern.wt (gM h)
  have hkl:p.kids.length<=p.wt:=by rw[p.wt_eq];exact ZBg Pattern.wt p.kids
  have hsh:∀i (h:i<p.kids.length),∃u,Zc w d u p.kids[i]:=fun i h=>⟨_,h3 i (Nat.zero_le _) (by omega) (by omega) h⟩
  have ih:∀i (h':i<p.kids.length),F.f181 p.kids[i]=some (p.kids[i].splits.take 401):=fun i h'=>by
   obtain⟨u,hu⟩:=hsh i h'
   exact P.Yq w d _ _ hu (by have:=hwk i h';omega)
  rw[F.f181,ZB1]
  by_cases h5:p.op=5
  ·have ht:ZH w t p=[t,t]:=Zk h1 h5
   have k2:p.kids.length=2:=by rw[h2,ht];rfl
   have es2:(p.kids.map Pattern.splits).flatten=(p.kids[0]'(by omega)).splits++(p.kids[1]'(by omega)).splits:=by
    have e9:(([p.kids[0]'(by omega),p.kids[1]'(by omega)]:List Pattern).map Pattern.splits).flatten=(p.kids[0]'(by omega)).splits++(p.kids[1]'(by omega)).splits:=by simp
    rw[←ZAz k2]at e9;exact e9
   rw[if_pos h5,if_pos h5,es2,gQ (by omega),gQ (by omega)]
   simp only[oE,oS]
   rw[ih 0 (by omega),ih 1 (by omega)]
   simp only[oS]
   generalize(p.kids[0]'(by omega)).splits=a
   generalize(p.kids[1]'(by omega)).splits=b
   have e:((a.take 401)++(b.take 401)).take 401=(a++b).take 401:=by
    rw[ZA8,List.take_append,List.take_append,List.take_take]
    congr 1
    rw[Nat.min_eq_left (by omega)]
   have l1:(a.take 401).length<=401:=by rw[List.length_take];omega
   have l2:(b.take 401).length<=401:=by rw[List.length_take];omega
   rw[if_pos (by omega)]
   by_cases hc:401<(a.take 401++b.take 401).length
   ·rw[if_pos hc,if_pos (by omega),e]
   ·have e2:(a.take 401++b.take 401).take 401=a.take 401++b.take 401:=List.take_of_length_le (by omega)
    rw[if_neg hc,←e,e2]
  ·have key:=P.YAF p ih (by omega) _ 0 [] rfl rfl
   rw[List.drop_zero,List.nil_append]at key
   have hne:∀L,L∈p.kids.map Pattern.splits->L≠[]:=fun L hL hn=>by
    obtain⟨k,hk,rfl⟩:=List.mem_map.1 hL
    obtain⟨i,hi,rfl⟩:=List.mem_iff_getElem.1 hk
    obtain⟨u,hu⟩:=hsh i hi
    have l1:=Zx p.kids[i]
    have l2:=ZC5 hu
    rw[hn]at l1
    simp at l1;omega
   have t1:=P.YAj (Ls:=p.kids.map Pattern.splits) (by simp;omega) hne _ 0 [[]] rfl (by simp) (Nat.zero_le _)
   rw[List.map_map,List.drop_zero]at t1
   rw[if_neg h5,if_neg h5,key]
   simp only[oE,oS]
   unfold F.f179
   rw[show F.f178 (p.kids.map fun k=>k.splits.take 401) [[]] 0=some (((p.kids.map Pattern.splits).foldl addT [[]]).take 401)from t1]
   simp only[oE,oS]
   rw[P.YAt p _ _ 0 [] rfl (by rw[List.length_take,List.length_nil];omega),List.drop_zero,List.nil_append]
   have e:=ZEG (fun ks=>⟨p.op,p.ctor,p.n,p.m,p.var,ks⟩) (fun q=>rfl) (fun a b=>rfl) (fun a=>rfl) (p.kids.map Pattern.splits) [[]]
   rw[show([⟨p.op,p.ctor,p.n,p.m,p.var,[]⟩]:List Pattern)=[([]:List Pattern)].map (fun ks=>(⟨p.op,p.ctor,p.n,p.m,p.var,ks⟩:Pattern))from rfl,e,List.map_take]
   rfl
/-! The code of clauses. -/
theorem ZC0 {α:Type}{f:α->α}{L:List α->Nat->Option (List α)}{n:Nat}(hL:∀out k,out.length=n->L out k=if h:k<out.length then L (out.set k (f out[k])) (k+1)else some out):
  ∀(m k:Nat) (out:List α),out.length=n->out.length-k=m->k<=out.length->L out k=some (out.take k++(out.drop k).map f)
 |0,k,out,hn,hm,hk=>by
  rw[hL out k hn,dif_neg (by omega),List.drop_eq_nil_of_le (by omega),List.take_of_length_le (by omega)]
  simp
 |m+1,k,out,hn,hm,hk=>by
  have hk':k<out.length:=by omega
  rw[hL out k hn,dif_pos hk',ZC0 hL m (k+1) _ (by simpa using hn) (by simp;omega) (by simp;omega)]
  have e1:(out.set k (f out[k])).take (k+1)=out.take k++[f out[k]]:=by
   rw[List.take_succ_eq_append_getElem (by simpa using hk'),List.take_set_of_le (Nat.le_refl _)]
   simp
  have e2:(out.set k (f out[k])).drop (k+1)=out.drop (k+1):=List.drop_set_of_lt (by omega)
  rw[e1,e2,List.drop_eq_getElem_cons hk',List.map_cons]
  simp
def ZIo (i:Nat)(q:Pattern)(e:Int):Step:=⟨2,[],0,0,0,(i:Int),sortI (fun x=>x.var) (q.bnd []),e⟩
def toS (e:Int)(s:Step):Step:=⟨s.op,s.path,s.ctor,s.n,s.m,s.clause,s.binds,e⟩
def Zi (g:Nat->Int)(i:Nat):Nat->List Pattern->List Step
 |_,[]=>[]
 |n,q::r=>((q.tst []).map (toS ((n+(q.tst []).length+1:Nat):Int))++[ZIo i q (g (n+(q.tst []).length+1))])++Zi g i (n+(q.tst []).length+1) r
theorem ZD5 (g g':Nat->Int)(i:Nat):∀(qs:List Pattern) (n:Nat),(Zi g i n qs).length=(Zi g' i n qs).length
 | [],n=>rfl
 |q::r,n=>by simp only[Zi,List.length_append,ZD5 g g' i r];simp
theorem ZFa {β:Type}{R:β->Prop}(op:Int)(g:Pattern->List Int->List β)(path:List Int):∀(l:List Pattern) (h:∀k,k∈l->∀path s,s∈g k path->R s) (i:Nat) (s:β),s∈ZAC op path i (l.map g)->R s
 | [],h,i,s,hs=>by simp[ZAC]at hs
 |k::r,h,i,s,hs=>by
  rw[List.map_cons,ZAC,List.mem_append]at hs
  rcases hs with hs|hs
  ·exact h k (List.mem_cons_self ..) _ s hs
  ·exact ZFa op g path r (fun k hk=>h k (List.mem_cons_of_mem _ hk)) (i+1) s hs
theorem ZLf (p:Pattern):∀path s,s∈p.tst path->s.op=1:=by
 induction p using Pattern.ind with
 |_ p ih=>
  intro path s hs
  rw[ZHA,List.mem_append]at hs
  rcases hs with hs|hs
  ·split at hs
   ·rw[List.mem_singleton.1 hs]
   ·split at hs
    ·rw[List.mem_singleton.1 hs]
    ·cases hs
  ·exact ZFa p.op Pattern.tst path p.kids ih 0 s hs
theorem P.Yv (v4:List (List Pattern)×Bool)(out:List Step)(i:Nat)(x:List Pattern)(hx:∀q,q∈x->q.wt<=900/\((q.bnd []).map PathBind.var).Nodup)(hxl:x.length<=1000):
  ∀(m j:Nat) (o:List Step),x.length-j=m->o.length+m*1000<=67108000->F.f166 v4 out i x o j=some (o++Zi (fun _=>0) i o.length (x.drop j))
 |0,j,o,hm,hb=>by
  rw[F.f166,if_neg (by omega),List.drop_eq_nil_of_le (by omega)]
  simp[Zi]
 |m+1,j,o,hm,hb=>by
  have hj:j<x.length:=by omega
  obtain⟨w1,n1⟩:=hx _ (gM hj)
  have t1:=ZC7 x[j] []
  have b1:=ZEx x[j] []
  rw[F.f166,if_pos hj,gQ hj]
  simp only[oE,oS]
  rw[P.YAd x[j] [] o [] (by simp;omega) (by omega) (by simp;omega)]
  simp only[oS,List.nil_append]
  unfold F.f164
  rw[if_pos ⟨n1,by omega⟩]
  simp only[oS]
  have hl:(o++x[j].tst []).length=o.length+(x[j].tst []).length:=List.length_append
  have key:=ZC0 (f:=toS ((o.length+(x[j].tst []).length+1:Nat):Int)) (n:=o.length+(x[j].tst []).length) (L:=fun a k=>F.f165 v4 out i x j (sortI (fun x=>x.var) (x[j].bnd [])) a k)
   (fun a k ha=>by
    show F.f165 v4 out i x j _ a k=_
    rw[F.f165]
    by_cases hk:k<a.length
    ·rw[if_pos hk,dif_pos hk,if_pos (by omega),gQ hk]
     simp only[oE,oS]
     rw[ha]
     rfl
    ·rw[if_neg hk,dif_neg hk]) _ o.length (o++x[j].tst []) hl rfl (by omega)
  rw[key,List.take_left,List.drop_left]
  simp only[oS]
  rw[if_pos (by simp;omega),if_pos (by omega),P.Yv v4 out i x hx hxl m (j+1) _ (by omega) (by simp;omega),List.drop_eq_getElem_cons hj]
  have el:(o++(x[j].tst []).map (toS ((o.length+(x[j].tst []).length+1:Nat):Int))++[(⟨2,[],0,0,0,(i:Int),sortI (fun x=>x.var) (x[j].bnd []),0⟩:Step)]).length=o.length+(x[j].tst []).length+1:=by simp;omega
  rw[el,Zi]
  simp only[ZIo,List.append_assoc]
theorem ZD9 {α:Type}:∀l l':List α,l.Nodup->l'.Nodup->(∀x,x∈l↔x∈l')->l.Perm l'
 | [],l',_,_,h=>by
  cases l' with
  |nil=>exact .refl _
  |cons a r=>exact absurd ((h a).2 (List.mem_cons_self ..)) (by simp)
 |x::r,l',hn,hn',h=>by
  obtain⟨s,t,rfl⟩:=List.append_of_mem ((h x).1 (List.mem_cons_self ..))
  rw[List.nodup_cons]at hn
  have hp:(s++x::t).Perm (x::(s++t)):=List.perm_middle
  have hn2:=hp.nodup_iff.1 hn'
  rw[List.nodup_cons]at hn2
  refine((ZD9 r (s++t) hn.2 hn2.2 fun y=> ?_).cons x).trans hp.symm
  have hy:=h y
  rw[hp.mem_iff,List.mem_cons,List.mem_cons]at hy
  refine⟨fun hr=> ?_,fun hr=> ?_⟩
  ·rcases hy.1 (.inr hr)with rfl|h
   ·exact absurd hr hn.1
   ·exact h
  ·rcases hy.2 (.inr hr)with rfl|h
   ·exact absurd hr hn2.1
   ·exact h
def ZDZ (l:List PathBind)(n m:Nat):List PathBind:=(List.range' n m).flatMap fun(k:Nat)=>l.filter fun b=>decide (b.var=(k:Int))
theorem ZFv {l:List PathBind}{n m:Nat}{x:PathBind}:x∈ZDZ l n m↔x∈l/\(n:Int)<=x.var/\x.var<(n+m:Nat):=by
 unfold ZDZ
 simp only[List.mem_flatMap,List.mem_filter,decide_eq_true_eq,List.mem_range'_1]
 constructor
 ·rintro⟨k,hk,hx,e⟩
  exact⟨hx,by omega,by omega⟩
 ·rintro⟨hx,h1,h2⟩
  exact⟨x.var.toNat,by omega,hx,by omega⟩
theorem ZK1 {l:List PathBind}(h:(l.map PathBind.var).Nodup)(n:Int):(l.filter fun b=>decide (b.var=n)).Pairwise fun x y=>x.var<y.var:=by
 induction l with
 |nil=>simp
 |cons b r ih=>
  rw[List.map_cons,List.nodup_cons]at h
  by_cases e:b.var=n
  ·have:(r.filter fun b=>decide (b.var=n))=[]:=by
    rw[List.filter_eq_nil_iff]
    intro a ha
    have:a.var≠n:=fun h'=>h.1 (by rw[e,←h'];exact List.mem_map_of_mem ha)
    simpa using this
   rw[List.filter_cons,if_pos (by simpa using e),this]
   simp
  ·rw[List.filter_cons,if_neg (by simpa using e)]
   exact ih h.2
theorem ZEw {l:List PathBind}(h:(l.map PathBind.var).Nodup):∀m n,(ZDZ l n m).Pairwise fun x y=>x.var<y.var
 |0,n=>by simp[ZDZ]
 |m+1,n=>by
  have ih:=ZEw h m (n+1)
  have e:ZDZ l n (m+1)=(l.filter fun b=>decide (b.var=(n:Int)))++ZDZ l (n+1) m:=by
   unfold ZDZ;rw[List.range'_succ,List.flatMap_cons]
  rw[e,List.pairwise_append]
  refine⟨ZK1 h _,ih,fun a ha b hb=> ?_⟩
  have h1:=(List.mem_filter.1 ha).2
  have h2:=(ZFv.1 hb).2.1
  simp only[decide_eq_true_eq]at h1
  omega
theorem ZIV {l:List PathBind}(h:(l.map PathBind.var).Nodup)(hv:∀b,b∈l->0<=b.var/\b.var<=5):ZDZ l 0 6=sortI (fun x=>x.var) l:=by
 have nd:∀l:List PathBind,l.Pairwise (fun x y=>x.var<y.var)->l.Nodup:=fun l h=>h.imp fun{a b} hab e=>by subst e;omega
 refine ZGW (key:=fun x=>x.var) _ _ (ZD9 _ _ (nd _ (ZEw h 6 0)) (nd _ (ZCy l h)) fun x=> ?_) (ZEw h 6 0) (ZCy l h)
 rw[ZFv,ZE9]
 exact⟨fun h=>h.1,fun hx=>⟨hx,by have:=hv x hx;omega,by have:=hv x hx;omega⟩⟩
theorem P.YA5 (list:List PathBind)(n:Nat)(hp:∀b,b∈list->b.path.length<=67108864):∀(m i:Nat) (out:List PathBind),list.length-i=m->out.length+m<=67108864->F.f190 list n out i=some (out++(list.drop i).filter fun b=>decide (b.var=(n:Int)))
 |0,i,out,hm,hb=>by rw[F.f190,if_neg (by omega),List.drop_eq_nil_of_le (by omega)];simp
 |m+1,i,out,hm,hb=>by
  have hi:i<list.length:=by omega
  rw[F.f190,if_pos hi,gQ hi,List.drop_eq_getElem_cons hi,List.filter_cons]
  simp only[oE,oS]
  by_cases e:list[i].var=(n:Int)
  ·rw[if_pos e,if_pos (hp _ (gM hi)),if_pos (by omega),if_pos (by simpa using e),P.YA5 list n hp m (i+1) _ (by omega) (by simp;omega),←e,List.append_assoc]
   rfl
  ·rw[if_neg e,if_neg (by simpa using e),P.YA5 list n hp m (i+1) _ (by omega) (by omega)]
theorem P.YA9 (list:List PathBind)(hp:∀b,b∈list->b.path.length<=67108864)(hl:list.length<=1048576):∀(m n:Nat) (out:List PathBind),6-n=m->n<=6->out.length+m*1048576<=67108864->F.f191 list out n=some (out++ZDZ list n m)
 |0,n,out,hm,hn,hb=>by rw[F.f191,if_neg (by omega)];simp[ZDZ]
 |m+1,n,out,hm,hn,hb=>by
  have hf:(list.filter fun b=>decide (b.var=(n:Int))).length<=list.length:=List.length_filter_le ..
  rw[F.f191,if_pos (by omega),P.YA5 list n hp _ 0 out rfl (by omega)]
  simp only[oE,oS,List.drop_zero]
  rw[if_pos (by omega),P.YA9 list hp hl m (n+1) _ (by omega) (by omega) (by rw[List.length_append];omega)]
  unfold ZDZ
  rw[List.range'_succ,List.flatMap_cons,List.append_assoc]
theorem P.YAc (list:List PathBind)(hp:∀b,b∈list->b.path.length<=67108864)(hl:list.length<=1048576)(h:(list.map PathBind.var).Nodup)(hv:∀b,b∈list->0<=b.var/\b.var<=5):F.f192 list=some (sortI (fun x=>x.var) list):=by
 unfold F.f192
 rw[P.YA9 list hp hl 6 0 [] rfl (by omega) (by simp),ZIV h hv]
 rfl
theorem ZDN {β:Type}(op:Int)(g:Pattern->List Int->List β)(path:List Int):∀(l:List Pattern) (i:Nat) (s:β),s∈ZAC op path i (l.map g)->∃k,k∈l/\∃path',path'.length<=path.length+1/\s∈g k path'
 | [],i,s,hs=>by simp[ZAC]at hs
 |k::r,i,s,hs=>by
  rw[List.map_cons,ZAC,List.mem_append]at hs
  rcases hs with hs|hs
  ·exact⟨k,List.mem_cons_self ..,_,by split<;>simp,hs⟩
  ·obtain⟨k',h1,h2⟩:=ZDN op g path r (i+1) s hs
   exact⟨k',List.mem_cons_of_mem _ h1,h2⟩
theorem ZLE (p:Pattern):∀path b,b∈p.bnd path->b.path.length<=path.length+p.wt:=by
 induction p using Pattern.ind with
 |_ p ih=>
  intro path b hb
  rw[ZEN,List.mem_append]at hb
  rcases hb with hb|hb
  ·split at hb
   ·rw[List.mem_singleton.1 hb];exact Nat.le_add_right _ _
   ·cases hb
  ·obtain⟨k,hk,path',hp,hb⟩:=ZDN p.op Pattern.bnd path p.kids 0 b hb
   have h1:=ih k hk path' b hb
   have h2:1+k.wt<=p.wt:=by rw[p.wt_eq];exact ZAA Pattern.wt hk
   omega
theorem ZJw {w:List Data}:∀(d:Nat) (t:Ty) (p:Pattern),ZHE w d t p->∀path b,b∈p.bnd path->0<=b.var/\b.var<=5
 |0,_,_,h,_,_,_=>h.elim
 |d+1,t,p,⟨h1,h5,hl,hk⟩,path,b,hb=>by
  rw[ZEN,List.mem_append]at hb
  rcases hb with hb|hb
  ·split at hb
   ·next h26=>
    rw[List.mem_singleton.1 hb]
    show 0<=p.var/\p.var<=5
    unfold ZAn at h1
    omega
   ·cases hb
  ·obtain⟨k,hm,path',hp,hb⟩:=ZDN p.op Pattern.bnd path p.kids 0 b hb
   obtain⟨i,hi,rfl⟩:=List.mem_iff_getElem.1 hm
   exact ZJw d _ _ (hk i (by omega) hi) path' b hb
theorem P.YAv (w:List Data)(list:List Clause)(out:List Step)(i:Nat)(x:List Pattern)(hx:∀q,q∈x->q.wt<=900/\((q.bnd []).map PathBind.var).Nodup/\∃d t,ZHE w d t q)(hxl:x.length<=1000):
  ∀(m j:Nat) (o:List Step),x.length-j=m->o.length+m*1000<=67108000->F.f194 list out i x o j=some (o++Zi (fun n=>(n:Int)) i o.length (x.drop j))
 |0,j,o,hm,hb=>by
  rw[F.f194,if_neg (by omega),List.drop_eq_nil_of_le (by omega)]
  simp[Zi]
 |m+1,j,o,hm,hb=>by
  have hj:j<x.length:=by omega
  obtain⟨w1,n1,d,t,s1⟩:=hx _ (gM hj)
  have t1:=ZC7 x[j] []
  have b1:=ZEx x[j] []
  rw[F.f194,if_pos hj,gQ hj]
  simp only[oE,oS]
  rw[P.YAm w d t x[j] s1 [] o (by simp;omega) (by omega)]
  simp only[oS]
  rw[P.YA0 x[j] [] [] (by simp;omega) (by simp;omega),List.nil_append]
  simp only[oS]
  rw[P.YAc _ (fun b hb=>by have:=ZLE x[j] [] b hb;simp at this;omega) (by omega) n1 (ZJw d t x[j] s1 [])]
  simp only[oS]
  have hl:(o++x[j].tst []++[(⟨2,[],0,0,0,(i:Int),sortI (fun x=>x.var) (x[j].bnd []),0⟩:Step)]).length=o.length+(x[j].tst []).length+1:=by simp;omega
  have key:=ZC0 (f:=toS ((o.length+(x[j].tst []).length+1:Nat):Int)) (n:=o.length+(x[j].tst []).length+1) (L:=fun a k=>F.f193 list out i x j a k)
   (fun a k ha=>by
    show F.f193 list out i x j a k=_
    rw[F.f193]
    by_cases hk:k<a.length
    ·rw[if_pos hk,dif_pos hk,gQ hk]
     simp only[oE,oS]
     rw[ha]
     rfl
    ·rw[if_neg hk,dif_neg hk]) _ o.length _ hl rfl (by omega)
  rw[if_pos (by rw[List.length_append];omega),key,List.append_assoc,List.take_left,List.drop_left]
  simp only[oS]
  rw[if_pos (by omega),P.YAv w list out i x hx hxl m (j+1) _ (by omega) (by simp;omega),List.drop_eq_getElem_cons hj]
  have el:(o++(x[j].tst []++[(⟨2,[],0,0,0,(i:Int),sortI (fun x=>x.var) (x[j].bnd []),0⟩:Step)]).map (toS ((o.length+(x[j].tst []).length+1:Nat):Int))).length=o.length+(x[j].tst []).length+1:=by simp;omega
  rw[el,Zi,List.map_append]
  simp only[ZIo,List.append_assoc]
  rfl
def ZMu (e:Int)(s:Step):Step:=if s.op=2 then toS e s else s
theorem ZD6 (g:Nat->Int)(e:Int)(i:Nat):∀(qs:List Pattern) (n:Nat),(Zi g i n qs).map (ZMu e)=Zi (fun _=>e) i n qs
 | [],n=>rfl
 |q::r,n=>by
  simp only[Zi,List.map_append,ZD6 g e i r,List.map_map,List.map_cons,List.map_nil]
  congr 2
  refine List.map_congr_left fun s hs=> ?_
  have:=ZLf q [] s hs
  show ZMu e (toS _ s)=toS _ s
  unfold ZMu
  rw[if_neg (by show ¬s.op=2;omega)]
theorem ZFP (g:Nat->Int)(i:Nat):∀(qs:List Pattern) (n:Nat),(∀q,q∈qs->q.wt<=900)->(Zi g i n qs).length<=qs.length*1000
 | [],n,_=>by simp[Zi]
 |q::r,n,h=>by
  have h1:=ZFP g i r (n+(q.tst []).length+1) fun q hq=>h q (List.mem_cons_of_mem _ hq)
  have h2:=ZC7 q []
  have h3:=h q (List.mem_cons_self ..)
  simp only[Zi,List.length_append,List.length_map,List.length_cons,List.length_nil]at h1 ⊢
  omega
def clS (i:Nat)(o:List Step)(x:List Pattern):List Step:=o++Zi (fun _=>((o.length+(Zi (fun _=>0) i o.length x).length:Nat):Int)) i o.length x
def ZDq :Nat->List Step->List (List Pattern)->List Step
 |_,o,[]=>o
 |i,o,x::r=>ZDq (i+1) (clS i o x) r
def ZHL (q:Pattern):Prop:=q.wt<=900/\((q.bnd []).map PathBind.var).Nodup
theorem ZHU {L:List Step->Nat->Option (List Step)}(hL:∀o k,L o k=if k<o.length then(o[k]?)>>=fun x=>if x.op=2 then L (o.set k (⟨x.op,x.path,x.ctor,x.n,x.m,x.clause,x.binds,(o.length:Int)⟩:Step)) (k+1)else L o (k+1)else some o)
  (o:List Step) (k:Nat) (hk:k<=o.length):L o k=some (o.take k++(o.drop k).map (ZMu (o.length:Int))):=by
 refine ZC0 (f:=ZMu (o.length:Int)) (n:=o.length) (L:=L) (fun a k ha=> ?_) _ k o rfl rfl hk
 rw[hL]
 by_cases h:k<a.length
 ·rw[if_pos h,dif_pos h,gQ h]
  simp only[oE,oS]
  unfold ZMu
  by_cases h2:a[k].op=2
  ·rw[if_pos h2,if_pos h2,ha];rfl
  ·rw[if_neg h2,if_neg h2,List.set_getElem_self]
 ·rw[if_neg h,dif_neg h]
theorem ZJr (g:Nat->Int)(i:Nat)(o:List Step)(x:List Pattern):(o++Zi g i o.length x).take o.length++((o++Zi g i o.length x).drop o.length).map (ZMu ((o++Zi g i o.length x).length:Int))=clS i o x:=by
 rw[List.take_left,List.drop_left,ZD6,List.length_append,ZD5 g (fun _=>0)]
 rfl
theorem ZGt {i:Nat}{o:List Step}{x:List Pattern}(h:∀q,q∈x->q.wt<=900):(clS i o x).length<=o.length+x.length*1000:=by
 unfold clS
 rw[List.length_append]
 have:=ZFP (fun _=>((o.length+(Zi (fun _=>0) i o.length x).length:Nat):Int)) i x o.length h
 omega
theorem P.YAI (vs:List (List Pattern))(b:Bool)(hv:∀x,x∈vs->x.length<=40/\∀q,q∈x->ZHL q)(hl:vs.length<=1000):∀(m i:Nat) (o:List Step),vs.length-i=m->o.length+m*40000<=67000000->F.f168 (vs,b) o i=some (ZDq i o (vs.drop i))
 |0,i,o,hm,hb=>by
  rw[F.f168,if_neg (by show ¬i<vs.length;omega),List.drop_eq_nil_of_le (by omega)]
  rfl
 |m+1,i,o,hm,hb=>by
  have hi:i<vs.length:=by omega
  obtain⟨h40,hq⟩:=hv _ (gM hi)
  have hw:∀q,q∈vs[i]->q.wt<=900:=fun q h=>(hq q h).1
  have cl:=ZGt (i:=i) (o:=o) hw
  rw[F.f168,if_pos (show i<vs.length from hi),show(vs,b).1[i]? =some vs[i]from gQ hi]
  simp only[oE,oS]
  rw[P.Yv (vs,b) o i vs[i] hq (by omega) _ 0 o rfl (by omega),List.drop_zero]
  simp only[oS]
  rw[ZHU (L:=F.f167 (vs,b) i) (fun o k=>by rw[F.f167]) _ _ (by rw[List.length_append];omega),ZJr]
  simp only[oS]
  rw[if_pos (by omega),P.YAI vs b hv hl m (i+1) _ (by omega) (by omega),List.drop_eq_getElem_cons hi]
  rfl
theorem P.YAH (w:List Data)(list:List Clause)(hv:∀c,c∈list->F.f181 c.pat=some c.pat.splits/\c.pat.splits.length<=40/\∀q,q∈c.pat.splits->ZHL q/\∃d t,ZHE w d t q)(hl:list.length<=1000):
  ∀(m i:Nat) (o:List Step),list.length-i=m->o.length+m*40000<=67000000->F.f196 list o i=some (ZDq i o ((list.map fun c=>c.pat.splits).drop i))
 |0,i,o,hm,hb=>by
  rw[F.f196,if_neg (by omega),List.drop_eq_nil_of_le (by simp;omega)]
  rfl
 |m+1,i,o,hm,hb=>by
  have hi:i<list.length:=by omega
  obtain⟨e,h40,hq⟩:=hv _ (gM hi)
  have hw:∀q,q∈list[i].pat.splits->q.wt<=900:=fun q h=>(hq q h).1.1
  have cl:=ZGt (i:=i) (o:=o) hw
  rw[F.f196,if_pos hi,gQ hi]
  simp only[oE,oS]
  rw[e]
  simp only[oS]
  rw[P.YAv w list o i _ (fun q h=>⟨(hq q h).1.1,(hq q h).1.2,(hq q h).2⟩) (by omega) _ 0 o rfl (by omega),List.drop_zero]
  simp only[oS]
  rw[ZHU (L:=F.f195 list i) (fun o k=>by rw[F.f195]) _ _ (by rw[List.length_append];omega),ZJr]
  simp only[oS]
  rw[if_pos (by omega),P.YAH w list hv hl m (i+1) _ (by omega) (by omega),List.drop_eq_getElem_cons (show i<(list.map fun c=>c.pat.splits).length by simpa using hi),List.getElem_map]
  rfl
theorem P.YX (l:List Clause)(hv:∀c,c∈l->c.pat.alts<=40->F.f153 c.pat=some c.pat.splits)(hl:l.length<=1000):
  ∀(m i:Nat) (out:List (List Pattern)),l.length-i=m->out.length=i->F.f155 l out i=some (if ∀c,c∈l.drop i->c.pat.alts<=40 then .go (out++(l.drop i).map fun c=>c.pat.splits)else .ret ([],false))
 |0,i,out,hm,ho=>by
  rw[F.f155,if_neg (by omega),List.drop_eq_nil_of_le (by omega),if_pos (by simp)]
  simp
 |m+1,i,out,hm,ho=>by
  have hi:i<l.length:=by omega
  rw[F.f155,if_pos hi,gQ hi,List.drop_eq_getElem_cons hi]
  simp only[oE,oS]
  rw[P.Yu]
  simp only[oS]
  by_cases h:l[i].pat.alts<=40
  ·rw[if_neg (by omega),hv _ (gM hi) h]
   simp only[oS]
   rw[if_pos (by omega),P.YX l hv hl m (i+1) _ (by omega) (by simp[ho])]
   congr 1
   by_cases h2:∀c,c∈l.drop (i+1)->c.pat.alts<=40
   ·rw[if_pos h2,if_pos (fun c hc=>(List.mem_cons.1 hc).elim (fun e=>e▸h) (h2 c)),List.map_cons,List.append_assoc]
    rfl
   ·rw[if_neg h2,if_neg (fun h3=>h2 fun c hc=>h3 c (List.mem_cons_of_mem _ hc))]
  ·rw[if_pos (by omega),if_neg (fun h3=>h (h3 _ (List.mem_cons_self ..)))]
theorem P.YS (l:List Clause)(hv:∀c,c∈l->F.f181 c.pat=some (c.pat.splits.take 401)):
  ∀(m i:Nat),l.length-i=m->F.f198 l i=some (if ∀c,c∈l.drop i->c.pat.alts<=40 then .go ()else .ret ([],false))
 |0,i,hm=>by rw[F.f198,if_neg (by omega),List.drop_eq_nil_of_le (by omega),if_pos (by simp)]
 |m+1,i,hm=>by
  have hi:i<l.length:=by omega
  rw[F.f198,if_pos hi,gQ hi,List.drop_eq_getElem_cons hi]
  simp only[oE,oS]
  rw[hv _ (gM hi)]
  simp only[oS]
  have hl:(l[i].pat.splits.take 401).length=min 401 l[i].pat.alts:=by rw[List.length_take,Zx]
  by_cases h:l[i].pat.alts<=40
  ·rw[if_neg (by omega),P.YS l hv m (i+1) (by omega)]
   congr 1
   by_cases h2:∀c,c∈l.drop (i+1)->c.pat.alts<=40
   ·rw[if_pos h2,if_pos (fun c hc=>(List.mem_cons.1 hc).elim (fun e=>e▸h) (h2 c))]
   ·rw[if_neg h2,if_neg (fun h3=>h2 fun c hc=>h3 c (List.mem_cons_of_mem _ hc))]
  ·rw[if_pos (by omega),if_neg (fun h3=>h (h3 _ (List.mem_cons_self ..)))]
theorem ZDU :∀(vs:List (List Pattern)) (i:Nat) (o:List Step),(∀x,x∈vs->x.length<=40/\∀q,q∈x->q.wt<=900)->(ZDq i o vs).length<=o.length+vs.length*40000
 | [],i,o,_=>by simp[ZDq]
 |x::r,i,o,h=>by
  obtain⟨h1,h2⟩:=h x (List.mem_cons_self ..)
  have h3:=ZGt (i:=i) (o:=o) h2
  have h4:=ZDU r (i+1) (clS i o x) fun y hy=>h y (List.mem_cons_of_mem _ hy)
  rw[ZDq,List.length_cons]
  omega
def ZOI :Step:=⟨3,[],0,0,0,0,[],0⟩
theorem P.YAR (w:List Data)(hw:ZAH w)(t:Ty)(l:List Clause)(hp:∀c,c∈l->c.pat.wt<=1048576)(hpat:ZOT w t l->∀c,c∈l->ZAl w t c.pat):∃r b,F.f169 w t l=some (r,b)/\F.f199 w t l=some (r,b)/\
  (b=true->ZOT w t l/\(∀c,c∈l->c.pat.alts<=40)/\r=ZDq 0 [] (l.map fun c=>c.pat.splits)++[ZOI]):=by
 unfold F.f169 F.f199
 rw[P.Yb w hw t l hp,P.YZ w hw t l hp]
 simp only[oE,oS]
 by_cases hc:ZOT w t l
 ·have hpc:=hpat hc
  have hl8:l.length<=8:=hc.2.1
  rw[ZG hc,if_pos rfl,if_pos rfl]
  have h1:∀c,c∈l->F.f181 c.pat=some (c.pat.splits.take 401):=fun c h=>P.Yq w 10 t c.pat (hpc c h).1 (hp c h)
  unfold F.f156
  rw[P.YX l (fun c h ha=>P.YAJ 10 t c.pat (hpc c h).1 (hp c h) (by omega)) (by omega) _ 0 [] rfl rfl,P.YS l h1 _ 0 rfl,List.drop_zero,List.nil_append]
  by_cases ha:∀c,c∈l->c.pat.alts<=40
  ·rw[if_pos ha,if_pos ha]
   simp only[oE,oS]
   have hq:∀c,c∈l->∀q,q∈c.pat.splits->ZHL q/\∃d u,ZHE w d u q:=fun c h q hq=>by
    obtain⟨s1,s2,s3⟩:=ZB0 10 t c.pat (hpc c h).1 (hpc c h).2.1 q hq
    have:=(hpc c h).2.2
    exact⟨⟨by omega,ZE8 (hpc c h).1 (hpc c h).2.1 hq []⟩,10,t,s1⟩
   have hlen:∀c,c∈l->c.pat.splits.length<=40:=fun c h=>by rw[Zx];exact ha c h
   have hvs:∀x,x∈l.map (fun c=>c.pat.splits)->x.length<=40/\∀q,q∈x->ZHL q:=fun x hx=>by
    obtain⟨c,h,rfl⟩:=List.mem_map.1 hx
    exact⟨hlen c h,fun q hq'=>(hq c h q hq').1⟩
   have e1:=P.YAI (l.map fun c=>c.pat.splits) true hvs (by simp;omega) _ 0 [] rfl (by simp;omega)
   have e2:=P.YAH w l (fun c h=>⟨by rw[h1 c h,List.take_of_length_le (by have:=hlen c h;omega)],hlen c h,hq c h⟩) (by omega) _ 0 [] rfl (by simp;omega)
   have cl:=ZDU (l.map fun c=>c.pat.splits) 0 [] fun x hx=>⟨(hvs x hx).1,fun q hq=>((hvs x hx).2 q hq).1⟩
   rw[List.length_map,List.length_nil]at cl
   unfold F.f197
   rw[if_pos True.intro,e1,e2,List.drop_zero]
   simp only[oE,oS]
   rw[if_pos (by omega),if_pos (by omega)]
   exact⟨_,_,rfl,rfl,fun _=>⟨hc,ha,rfl⟩⟩
  ·rw[if_neg ha,if_neg ha]
   simp only[oE,oS]
   rw[if_neg (by decide)]
   exact⟨_,_,rfl,rfl,fun h=>by cases h⟩
 ·rw[ZF hc,if_neg (by decide),if_neg (by decide)]
  exact⟨_,_,rfl,rfl,fun h=>by cases h⟩
def ZEt (i:Nat)(l:List Step):Nat:=(l.filter fun s=>decide (s.op=2/\s.clause=(i:Int))).length
theorem ZA1 (i:Nat)(a b:List Step):ZEt i (a++b)=ZEt i a+ZEt i b:=by simp[ZEt]
theorem ZD7 (g:Nat->Int)(i j:Nat):∀(qs:List Pattern) (n:Nat),ZEt i (Zi g j n qs)=if j=i then qs.length else 0
 | [],n=>by simp[Zi,ZEt]
 |q::r,n=>by
  have h1:ZEt i ((q.tst []).map (toS ((n+(q.tst []).length+1:Nat):Int)))=0:=by
   unfold ZEt
   rw[List.length_eq_zero_iff,List.filter_eq_nil_iff]
   intro s hs
   obtain⟨s0,h0,rfl⟩:=List.mem_map.1 hs
   have:=ZLf q [] s0 h0
   have e:(toS ((n+(q.tst []).length+1:Nat):Int) s0).op=s0.op:=rfl
   simp only[decide_eq_true_eq,e]
   omega
  have h2:ZEt i [ZIo j q (g (n+(q.tst []).length+1))]=if j=i then 1 else 0:=by
   unfold ZEt ZIo
   by_cases e:j=i
   ·subst e;simp
   ·have:¬((j:Int)=(i:Int)):=by omega
    simp[e,this]
  rw[Zi,ZA1,ZA1,h1,h2,ZD7 g i j r,List.length_cons]
  by_cases e:j=i
  ·rw[if_pos e,if_pos e,if_pos e];omega
  ·rw[if_neg e,if_neg e,if_neg e]
theorem ZFq (i:Nat):∀(vs:List (List Pattern)) (j:Nat) (o:List Step),ZEt i (ZDq j o vs)=ZEt i o+(if j<=i then((vs[i-j]?).map List.length).getD 0 else 0)
 | [],j,o=>by simp[ZDq]
 |x::r,j,o=>by
  rw[ZDq,ZFq i r (j+1),clS,ZA1,ZD7]
  by_cases e:j=i
  ·subst e
   rw[if_pos rfl,if_neg (by omega),if_pos (Nat.le_refl _),Nat.sub_self]
   simp
  ·rw[if_neg e]
   by_cases h:j<=i
   ·rw[if_pos (by omega),if_pos h,show i-j=(i- (j+1))+1 by omega]
    simp
   ·rw[if_neg (by omega),if_neg h]
theorem P.YAk (v:List Data×Ty×List Clause)(v5:List Step×Bool)(i:Nat)(v20:List Pattern×Bool)(hl:v5.1.length<=67108864):∀(m k n:Nat),v5.1.length-k=m->n<=k->F.f207 v v5 i v20 n k=some (n+ZEt i (v5.1.drop k))
 |0,k,n,hm,hn=>by
  rw[F.f207,if_neg (by omega),List.drop_eq_nil_of_le (by omega)]
  simp[ZEt]
 |m+1,k,n,hm,hn=>by
  have hk:k<v5.1.length:=by omega
  have e:ZEt i (v5.1.drop k)=(if v5.1[k].op=2/\v5.1[k].clause=(i:Int)then 1 else 0)+ZEt i (v5.1.drop (k+1)):=by
   rw[List.drop_eq_getElem_cons hk]
   unfold ZEt
   rw[List.filter_cons]
   by_cases h:v5.1[k].op=2/\v5.1[k].clause=(i:Int)
   ·rw[if_pos (by simpa using h),if_pos h,List.length_cons];omega
   ·rw[if_neg (by simpa using h),if_neg h];omega
  rw[F.f207,if_pos hk,gQ hk,e]
  simp only[oE,oS]
  by_cases h2:v5.1[k].op=2
  ·rw[if_pos h2]
   by_cases h3:v5.1[k].clause=(i:Int)
   ·rw[if_pos h3,if_pos (by omega),P.YAk v v5 i v20 hl m (k+1) _ (by omega) (by omega),if_pos ⟨h2,h3⟩]
    congr 1;omega
   ·rw[if_neg h3,P.YAk v v5 i v20 hl m (k+1) _ (by omega) (by omega),if_neg (fun h=>h3 h.2)]
    congr 1;omega
  ·rw[if_neg h2,P.YAk v v5 i v20 hl m (k+1) _ (by omega) (by omega),if_neg (fun h=>h2 h.1)]
   congr 1;omega
end Go.Vl
