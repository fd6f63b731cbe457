/- A part of the proof. -/
import Derived.Test.YtnmbhmbljbhonaaGreatExpandNodesB1
set_option linter.all false
set_option maxRecDepth 100000
namespace Go.Vl
open Go Go.RowKit
open Go.IntKind (i64)
theorem P.YE (x:Tree):F.f197 x x=some true:=by
 induction x using Tree.ind with
 |_ x ihb ihe=>
  have l1:∀(m k:Nat),x.binds.length-k=m->F.f196 x x k=some (.go ()):=by
   intro m
   induction m with
   |zero=>intro k hm;rw[F.f196,if_neg (by omega)]
   |succ m ih=>
    intro k hm
    have hk:k<x.binds.length:=by omega
    rw[F.f196,if_pos hk,gQ hk]
    simp only[oE,oS,P.YR,ZGy,if_true]
    exact ih (k+1) (by omega)
  have l2:∀(m k:Nat),x.branches.length-k=m->F.f198 x x k=some (.go ()):=by
   intro m
   induction m with
   |zero=>intro k hm;rw[F.f198,if_neg (by omega)]
   |succ m ih=>
    intro k hm
    have hk:k<x.branches.length:=by omega
    rw[F.f198,if_pos hk,gQ hk]
    simp only[oE,oS,if_true]
    rw[ihb _ (gM hk)]
    simp only[oS,if_true]
    exact ih (k+1) (by omega)
  have l3:∀(m k:Nat),x.els.length-k=m->F.f199 x x k=some (.go ()):=by
   intro m
   induction m with
   |zero=>intro k hm;rw[F.f199,if_neg (by omega)]
   |succ m ih=>
    intro k hm
    have hk:k<x.els.length:=by omega
    rw[F.f199,if_pos hk,gQ hk]
    simp only[oE,oS]
    rw[ihe _ (gM hk)]
    simp only[oS,if_true]
    exact ih (k+1) (by omega)
  rw[F.f197]
  simp only[oE,oS,P.YR,ZGy,if_true,l1 _ 0 rfl,l2 _ 0 rfl,l3 _ 0 rfl]
theorem Rep.ok {list:List Node}{k:Nat}{x:Tree}(h:Rep list k x)(hr:right x):∃hk:k<list.length,nodeOk k list[k]/\list[k].binds=x.binds/\list[k].path=x.path:=by
 cases h with
 |mk _ _ es e js j0 h hl hb hj hr' h0 h1 h2 h3=>
  obtain⟨⟨r1,r2,r3,r4⟩,_,_⟩:=(ZAL x).1 hr
  obtain⟨hk,e1⟩:=List.getElem?_eq_some_iff.1 h
  refine⟨hk,?_,by rw[e1];rfl,by rw[e1];rfl⟩
  rw[e1]
  have he: -1<=e/\e<(k:Int):=by
   match hx:x.els with
   | []=>have:=h0 hx;omega
   |a::r=>have:=h2 a (by rw[hx];simp);omega
  exact⟨r1,r2,he.1,he.2,by show es.length<=10;omega,fun j hj'=>by
   have hj':j<es.length:=hj'
   have h4:j<x.branches.length:=by omega
   show 0<=es[j].to/\es[j].to<(k:Int)
   rw[hb j hj' h4]
   have:=hj j h4
   simp only;omega⟩
theorem ZOs (a b:Nat)(ha:a<=301)(hb:b<=301):(if 301<i64.wrap ((a:Int)+(b:Int))then 301 else i64.wrap ((a:Int)+(b:Int)))=((min (a+b) 301:Nat):Int):=by
 rw[ZG (by omega) (by omega)]
 split<;>omega
def cap (n:Nat):Nat:=min n 301
theorem P.YAb (list:List Node)(hl:list.length<=300)(T:Nat->Tree)(hT:∀k,k<list.length->Rep list k (T k)):∃s,F.f181 list=some s/\s.length=list.length/\∀k (h:k<s.length),s[k]=((cap (T k).nodes:Nat):Int):=by
 have l2:∀(i:Nat) (out:List Int) (hi:i<list.length),out.length=i->(∀k (h:k<out.length),out[k]=((cap (T k).nodes:Nat):Int))->∀(js:Nat->Nat) (bs:List Branch) (hbl:list[i].edges.length=bs.length) (hb:∀j (h1:j<list[i].edges.length) (h2:j<bs.length),list[i].edges[j].to=(js j:Int)/\js j<i/\T (js j)=bs[j].tree),
   ∀(m j n:Nat),bs.length-j=m->n<=301->F.f179 list i out list[i] j (n:Int)=some ((cap (n+((bs.drop j).map Branch.nodes).sum):Nat):Int):=by
  intro i out hi hol ho js bs hbl hb m
  induction m with
  |zero=>intro j n hm hn;rw[F.f179,if_neg (by omega),List.drop_eq_nil_of_le (by omega)];simp[cap];omega
  |succ m ih=>
   intro j n hm hn
   have hj:j<bs.length:=by omega
   have hj':j<list[i].edges.length:=by omega
   obtain⟨e1,e2,e3⟩:=hb j hj' hj
   rw[F.f179,if_pos hj',gQ hj',List.drop_eq_getElem_cons hj]
   simp only[oE,oS]
   rw[e1,Zx (show js j<out.length by omega)]
   simp only[oS]
   rw[ho _ (by omega),e3,ZOs _ _ hn (by unfold cap;omega),ih (j+1) _ (by omega) (by omega)]
   simp only[List.map_cons,List.sum_cons]
   have:Branch.nodes bs[j]=bs[j].tree.nodes:=rfl
   congr 2
   unfold cap;omega
 have l1:∀(m i:Nat) (out:List Int),list.length-i=m->out.length=i->i<=list.length->(∀k (h:k<out.length),out[k]=((cap (T k).nodes:Nat):Int))->∃s,F.f180 list i out=some s/\s.length=list.length/\∀k (h:k<s.length),s[k]=((cap (T k).nodes:Nat):Int):=by
  intro m
  induction m with
  |zero=>intro i out hm hol hi ho;exact⟨out,by rw[F.f180,if_neg (by omega)],by omega,ho⟩
  |succ m ih=>
   intro i out hm hol hi ho
   have hi:i<list.length:=by omega
   rw[F.f180,if_pos hi,gQ hi]
   simp only[oE,oS]
   have hR:=hT i hi
   have hfn:∀{j:Nat} {y:Tree},Rep list j y->T j=y:=fun h=>(hT _ h.lt).fn h
   generalize hx:T i=x at hR
   have hn:=x.nodes_eq
   cases hR with
   |mk _ _ es e js j0 h hl hb hj hr h0 h1 h2 h3=>
    have e1:=(List.getElem?_eq_some_iff.1 h).2
    have ees:list[i].edges=es:=by rw[e1];rfl
    have eel:list[i].els=e:=by rw[e1];rfl
    have:=l2 i out hi hol ho js x.branches (by rw[ees];exact hl) (fun j a1 a2=>by
     have a1':j<es.length:=by rw[←ees];exact a1
     have q:=hb j a1' a2
     have:list[i].edges[j]=es[j]:=by congr 1
     rw[this,q]
     exact⟨rfl,hj j a2,hfn (hr j a2)⟩) _ 0 1 rfl (by omega)
    rw[show(1:Int)=((1:Nat):Int)from rfl,this]
    simp only[oS,List.drop_zero]
    rw[eel]
    have fin:∀(v:Nat),v=x.nodes->∀k (h:k<(out++[((cap v:Nat):Int)]).length),(out++[((cap v:Nat):Int)])[k]=((cap (T k).nodes:Nat):Int):=by
     intro v hv k hk
     by_cases q:k<out.length
     ·rw[List.getElem_append_left q];exact ho k q
     ·have:k=i:=by simp at hk;omega
      subst this
      rw[List.getElem_append_right (by omega)];simp[hv,hx]
    match hels:x.els with
    | []=>
     rw[hels]at hn
     simp only[List.map_nil,List.sum_nil,Nat.add_zero]at hn
     rw[if_neg (by have:=h0 hels;omega),if_pos (by omega),if_pos (by omega)]
     have:=fin (1+(x.branches.map Branch.nodes).sum) (by omega)
     exact ih (i+1) _ (by omega) (by simp;omega) (by omega) this
    |y::r=>
     rw[hels]at h1
     have hr0:r=[]:=by simp at h1;exact h1
     subst hr0
     rw[hels]at hn
     simp only[List.map_cons,List.map_nil,List.sum_cons,List.sum_nil,Nat.add_zero]at hn
     obtain⟨q1,q2⟩:=h2 y (by rw[hels];simp)
     have q3:=h3 y (by rw[hels];simp)
     rw[if_pos (by omega),q1,Zx (show j0<out.length by omega)]
     simp only[oS]
     rw[ho _ (by omega),hfn q3,ZOs _ _ (by unfold cap;omega) (by unfold cap;omega),if_pos (by omega),if_pos (by omega)]
     have:=fin (1+(x.branches.map Branch.nodes).sum+y.nodes) (by omega)
     have e5:min (cap (1+(x.branches.map Branch.nodes).sum)+cap y.nodes) 301=cap (1+(x.branches.map Branch.nodes).sum+y.nodes):=by unfold cap;omega
     rw[e5]
     exact ih (i+1) _ (by omega) (by simp;omega) (by omega) this
 unfold F.f181
 obtain⟨s,e1,e2,e3⟩:=l1 _ 0 [] rfl rfl (by omega) (fun k h=>by simp at h)
 rw[e1]
 exact⟨s,rfl,e2,e3⟩
theorem P.YAR {list:List Node}{k:Nat}{x:Tree}(h:Rep list k x)(hr:right x)(hw:x.wt<=1048576):F.f185 list (k:Int)=some x:=by
 induction h with
 |mk k x es e js j0 h hl hb hj hr' h0 h1 h2 h3 ihr ih3=>
  obtain⟨⟨r1,r2,r3,r4⟩,rb,re⟩:=(ZAL x).1 hr
  have hw2:=hw
  rw[Tree.wt_eq]at hw2
  have w1:=Zh PathBind.wt x.binds
  have w2:=Zh (fun _:Int=>0) x.path
  have wp:∀b,b∈x.binds->b.path.length<=67108864:=fun b hb=>by
   have:=Zf PathBind.wt hb
   have h3:b.path.length<=PathBind.wt b:=by unfold PathBind.wt;have:=Zh (fun _:Int=>0) b.path;omega
   omega
  obtain⟨hk,e1⟩:=List.getElem?_eq_some_iff.1 h
  rw[F.f185,Zx hk]
  simp only[oE,oS]
  rw[e1]
  have lp:∀(m i:Nat) (out:List Branch),x.branches.length-i=m->out=x.branches.take i->i<=x.branches.length->F.f186 list (Zb x es e) x.binds x.path out i=some x.branches:=by
   intro m
   induction m with
   |zero=>
    intro i out hm ho hi
    rw[F.f186,if_neg (by show ¬i<es.length;omega),ho,List.take_of_length_le (by omega)]
   |succ m ih=>
    intro i out hm ho hi
    have hi:i<x.branches.length:=by omega
    have hi':i<es.length:=by omega
    have hg:(Zb x es e).edges[i]? =some es[i]:=gQ hi'
    rw[F.f186,if_pos (by show i<es.length;omega),hg]
    simp only[oE,oS]
    rw[hb i hi' hi]
    simp only
    have hbm:=gM hi
    rw[ihr i hi (rb _ hbm) (by have:=Zf Branch.wt hbm;have:Branch.wt x.branches[i]=x.branches[i].tree.wt:=rfl;omega)]
    simp only[oS]
    rw[if_pos (by rw[ho];simp;omega)]
    refine ih (i+1) _ (by omega) ?_ (by omega)
    rw[ho,List.take_succ_eq_append_getElem hi]
  have hB:F.f184 (Zb x es e).binds=some x.binds:=P.YW _ (by show x.binds.length<=_;omega) wp
  have hP:F.f182 (Zb x es e).path=some x.path:=P.YC _ (by show x.path.length<=_;omega)
  rw[hB,hP]
  simp only[oS]
  rw[lp _ 0 [] rfl rfl (by omega)]
  simp only[oS]
  have hels':(Zb x es e).els=e:=rfl
  rw[hels']
  match hels:x.els with
  | []=>
   rw[if_neg (by have:=h0 hels;omega)]
   congr 1
   exact Tree.ext' rfl rfl rfl rfl rfl hels.symm
  |y::r=>
   have hr0:r=[]:=by rw[hels]at h1;simp at h1;exact h1
   subst hr0
   have hym:y∈x.els:=by rw[hels];simp
   obtain⟨q1,q2⟩:=h2 y hym
   rw[if_pos (by omega),q1,ih3 y hym (re y hym) (by have:=Zf Tree.wt hym;omega)]
   simp only[oS]
   congr 1
   exact Tree.ext' rfl rfl rfl rfl rfl hels.symm
theorem Added.valid {x:Tree}{l:List Node}{k:Nat}(h:Added [] x l k)(hx:right x)(hn:x.nodes<=300):1<=l.length/\l.length<=300/\∀j (h:j<l.length),nodeOk j l[j]:=by
 have hk:=h.rep.lt
 have hl:=h.len
 refine⟨by omega,by simp at hl;omega,fun j hj=> ?_⟩
 obtain⟨y,hy,hr⟩:=h.sub j (by simp) hj
 exact(Rep.ok hr (hy.right hx)).2.1
def tupR (lists:List (List Pattern))(i:Nat)(x:List Pattern):Prop:=x.length=i/\∀k (h:k<x.length) (h':k<lists.length),x[k]∈lists[k]
theorem ZIN {lists:List (List Pattern)}{i:Nat}{x:List Pattern}(h:tupR lists i x)(hi:i<lists.length){q:Pattern}(hq:q∈lists[i]):tupR lists (i+1) (x++[q]):=by
 refine⟨by simp[h.1],fun k hk hk'=> ?_⟩
 by_cases e:k<x.length
 ·rw[List.getElem_append_left e];exact h.2 k e hk'
 ·have:k=i:=by simp at hk;have:=h.1;omega
  subst this
  rw[List.getElem_append_right (by omega)]
  simpa[h.1]using hq
theorem P.YBQ {lists:List (List Pattern)}{i:Nat}(hi:i<lists.length)(hb:lists.length<=67108863){out:List (List Pattern)}{k:Nat}(hk:k<out.length)(hR:∀x,x∈out->tupR lists i x)(hx:lists[i].length<=401):
  ∀(m j:Nat) (next:List (List Pattern)),lists[i].length-j=m->next.length<=401->(∀x,x∈next->tupR lists (i+1) x)->∃r,F.f106 lists out i k next j=some r/\r.length<=401/\∀x,x∈r->tupR lists (i+1) x
 |m,j,next,hm,hn,hq=>by
  rw[F.f106,gQ hi]
  simp only[oE,oS]
  by_cases hj:j<lists[i].length
  ·rw[if_pos hj]
   by_cases h4:next.length<=400
   ·have h1:=(hR _ (gM hk)).1
    rw[if_pos h4,gQ hk]
    simp only[oS]
    rw[if_pos (by omega),gQ hj]
    simp only[oS]
    rw[if_pos (by omega),if_pos (by omega),if_pos (by omega)]
    match m,hm with
    |0,hm=>omega
    |m+1,hm=>
     refine P.YBQ hi hb hk hR hx m (j+1) _ (by omega) (by simp;omega) fun x hx2=> ?_
     rcases List.mem_append.1 hx2 with hx2|hx2
     ·exact hq x hx2
     ·rw[List.mem_singleton.1 hx2];exact ZIN (hR _ (gM hk)) hi (gM hj)
   ·rw[if_neg h4];exact⟨next,rfl,hn,hq⟩
  ·rw[if_neg hj];exact⟨next,rfl,hn,hq⟩
theorem P.YBR {lists:List (List Pattern)}{i:Nat}(hi:i<lists.length)(hb:lists.length<=67108863){out:List (List Pattern)}(ho:out.length<=401)(hR:∀x,x∈out->tupR lists i x)(hx:lists[i].length<=401):
  ∀(m k:Nat) (next:List (List Pattern)),out.length-k=m->next.length<=401->(∀x,x∈next->tupR lists (i+1) x)->∃r,F.f107 lists out i next k=some r/\r.length<=401/\∀x,x∈r->tupR lists (i+1) x
 |m,k,next,hm,hn,hq=>by
  rw[F.f107]
  by_cases hk:k<out.length
  ·rw[if_pos hk]
   by_cases h4:next.length<=400
   ·rw[if_pos h4]
    obtain⟨r,e,h1,h2⟩:=P.YBQ hi hb hk hR hx _ 0 next rfl hn hq
    rw[e]
    simp only[oE,oS]
    rw[if_pos (by omega)]
    match m,hm with
    |0,hm=>omega
    |m+1,hm=>exact P.YBR hi hb ho hR hx m (k+1) r (by omega) h1 h2
   ·rw[if_neg h4];exact⟨next,rfl,hn,hq⟩
  ·rw[if_neg hk];exact⟨next,rfl,hn,hq⟩
theorem P.YBS {lists:List (List Pattern)}(hb:lists.length<=67108863)(hx:∀x,x∈lists->x.length<=401):
  ∀(m i:Nat) (out:List (List Pattern)),lists.length-i=m->i<=lists.length->out.length<=401->(∀x,x∈out->tupR lists i x)->∃r,F.f108 lists out i=some r/\r.length<=401/\∀x,x∈r->tupR lists lists.length x
 |m,i,out,hm,hi,ho,hR=>by
  rw[F.f108]
  by_cases h:i<lists.length
  ·rw[if_pos h]
   obtain⟨r,e,h1,h2⟩:=P.YBR h hb ho hR (hx _ (gM h)) _ 0 [] rfl (by simp) (by simp)
   rw[e]
   simp only[oE,oS]
   rw[if_pos (by omega)]
   match m,hm with
   |0,hm=>omega
   |m+1,hm=>exact P.YBS hb hx m (i+1) r (by omega) (by omega) h1 h2
  ·rw[if_neg h]
   have:i=lists.length:=by omega
   subst this
   exact⟨out,rfl,ho,hR⟩
theorem P.YAs {lists:List (List Pattern)}(hb:lists.length<=67108863)(hx:∀x,x∈lists->x.length<=401):∃r,F.f109 lists=some r/\r.length<=401/\∀x,x∈r->tupR lists lists.length x:=by
 obtain⟨r,e,h⟩:=P.YBS hb hx _ 0 [[]] rfl (by omega) (by simp) (fun x hm=>by rw[List.mem_singleton.1 hm];exact⟨rfl,fun k hk=>absurd hk (by simp)⟩)
 unfold F.f109
 rw[e]
 exact⟨r,rfl,h⟩
def ZFU (w:List Data):Nat->Ty->Pattern->Prop
 |0,_,_=>False
 |d+1,t,p=>ZDo w t p/\p.op≠5/\p.kids.length=(ZN w t p).length/\∀i (h:i<(ZN w t p).length) (h':i<p.kids.length),ZFU w d (ZN w t p)[i] p.kids[i]
theorem ZBx {w:List Data}:∀{d:Nat} {t:Ty} {p:Pattern},ZFU w d t p->ZFU w (d+1) t p
 |0,_,_,h=>h.elim
 |d+1,t,p,⟨h1,h2,h3,h4⟩=>⟨h1,h2,h3,fun i h h'=>ZBx (h4 i h h')⟩
theorem ZIK :∀{a b:List Pattern},a.length=b.length->(∀i (h:i<a.length) (h':i<b.length),a[i].wt<=b[i].wt)->wtL Pattern.wt a<=wtL Pattern.wt b
 | [],[],_,_=>Nat.le_refl _
 | [],_::_,h,_=>by simp at h
 |_::_,[],h,_=>by simp at h
 |x::a,y::b,h,hh=>by
  have h0:=hh 0 (by simp) (by simp)
  have:=ZIK (a:=a) (b:=b) (by simpa using h) fun i hi hi'=>by have:=hh (i+1) (by simpa using hi) (by simpa using hi');simpa using this
  simp only[ZA0,List.getElem_cons_zero]at h0 ⊢
  omega
theorem P.YAo (p:Pattern)(l:List (List Pattern)):∀(m i:Nat) (out:List Pattern),l.length-i=m->out.length+m<=67108864->F.f110 p l out i=some (out++(l.drop i).map fun x=>⟨p.op,p.ctor,p.n,p.m,p.var,x⟩)
 |0,i,out,hm,hb=>by rw[F.f110,if_neg (by omega),List.drop_eq_nil_of_le (by omega)];simp
 |m+1,i,out,hm,hb=>by
  have hi:i<l.length:=by omega
  rw[F.f110,if_pos hi,gQ hi]
  simp only[oE,oS]
  rw[if_pos (by omega),P.YAo p l m (i+1) _ (by omega) (by simp;omega),List.drop_eq_getElem_cons hi,List.map_cons]
  simp[←List.map_drop]
theorem P.YAp (p:Pattern)(G:Nat->List Pattern->Prop)(h:∀i (h:i<p.kids.length),∃l,F.f111 p.kids[i]=some l/\G i l)(hk:p.kids.length<=67108863):
  ∀(m i:Nat) (out:List (List Pattern)),p.kids.length-i=m->out.length=i->i<=p.kids.length->(∀k (h:k<out.length),G k out[k])->∃r,F.f112 p out i=some r/\r.length=p.kids.length/\∀k (h:k<r.length),G k r[k]
 |0,i,out,hm,ho,hi,hg=>by rw[F.f112,if_neg (by omega)];exact⟨out,rfl,by omega,hg⟩
 |m+1,i,out,hm,ho,hi,hg=>by
  have hi':i<p.kids.length:=by omega
  obtain⟨l,e,hl⟩:=h i hi'
  rw[F.f112,if_pos hi',gQ hi']
  simp only[oE,oS]
  rw[e]
  simp only[oS]
  rw[if_pos (by omega)]
  refine P.YAp p G h hk m (i+1) _ (by omega) (by simp[ho]) (by omega) fun k hk2=> ?_
  by_cases e2:k<out.length
  ·rw[List.getElem_append_left e2];exact hg k e2
  ·have:k=i:=by simp at hk2;omega
   subst this
   rw[List.getElem_append_right (by omega)]
   simpa[ho]using hl
theorem P.YAJ (w:List Data):∀(d:Nat) (t:Ty) (p:Pattern),ZAX w d t p->p.wt<=1048576->∃l,F.f111 p=some l/\l.length<=401/\∀q,q∈l->ZFU w d t q/\q.wt<=p.wt
 |0,_,_,h,_=>h.elim
 |d+1,t,p,⟨h1,h2,h3⟩,hw=>by
  have hwk:∀i (h:i<p.kids.length),1+p.kids[i].wt<=p.wt:=fun i h=>by rw[p.wt_eq];exact Zf Pattern.wt (gM h)
  have hkl:p.kids.length<=p.wt:=by rw[p.wt_eq];exact Zh Pattern.wt p.kids
  have ih:∀i (h:i<(ZN w t p).length) (h':i<p.kids.length),∃l,F.f111 p.kids[i]=some l/\l.length<=401/\∀q,q∈l->ZFU w d (ZN w t p)[i] q/\q.wt<=p.kids[i].wt:=
   fun i h h'=>P.YAJ w d _ _ (h3 i (by omega) h h h') (by have:=hwk i h';omega)
  rw[F.f111]
  by_cases h5:p.op=5
  ·have ht:ZN w t p=[t,t]:=ZAu h1 h5
   have k2:p.kids.length=2:=by rw[h2,ht];rfl
   obtain⟨a,ea,la,pa⟩:=ih 0 (by rw[ht];simp) (by omega)
   obtain⟨b,eb,lb,pb⟩:=ih 1 (by rw[ht];simp) (by omega)
   have w0:=hwk 0 (by omega)
   have w1:=hwk 1 (by omega)
   have hall:∀q,q∈a++b->ZFU w (d+1) t q/\q.wt<=p.wt:=by
    intro q hq
    rcases List.mem_append.1 hq with hq|hq
    ·have:=pa q hq
     simp only[ht,List.getElem_cons_zero]at this
     exact⟨ZBx this.1,by omega⟩
    ·have:=pb q hq
     simp only[ht,List.getElem_cons_succ,List.getElem_cons_zero]at this
     exact⟨ZBx this.1,by omega⟩
   rw[if_pos h5,gQ (by omega)]
   simp only[oE,oS]
   rw[ea]
   simp only[oS]
   rw[gQ (by omega)]
   simp only[oS]
   rw[eb]
   simp only[oS]
   rw[if_pos (by omega)]
   by_cases hl:401<(a++b).length
   ·rw[if_pos hl,if_pos (by omega)]
    exact⟨_,rfl,by simp;omega,fun q hq=>hall q (List.mem_of_mem_take hq)⟩
   ·rw[if_neg hl]
    exact⟨_,rfl,by omega,hall⟩
  ·rw[if_neg h5]
   obtain⟨ls,e1,l1,g1⟩:=P.YAp p (fun i l=>l.length<=401/\∀(h:i<(ZN w t p).length) (h':i<p.kids.length),∀q,q∈l->ZFU w d (ZN w t p)[i] q/\q.wt<=p.kids[i].wt)
    (fun i h=>by obtain⟨l,a,b,c⟩:=ih i (by omega) h;exact⟨l,a,b,fun _ _=>c⟩) (by omega) _ 0 [] rfl rfl (by omega) (by simp)
   obtain⟨r,e2,l2,g2⟩:=P.YAs (lists:=ls) (by omega) (fun x hx=>by obtain⟨k,hk,rfl⟩:=List.getElem_of_mem hx;exact(g1 k hk).1)
   rw[e1]
   simp only[oE,oS]
   rw[e2]
   simp only[oS]
   rw[P.YAo p r _ 0 [] rfl (by simp;omega)]
   simp only[oS,List.nil_append,List.drop_zero]
   refine⟨_,rfl,by simp;omega,fun q hq=> ?_⟩
   obtain⟨x,hx,rfl⟩:=List.mem_map.1 hq
   obtain⟨x1,x2⟩:=g2 x hx
   have ht:ZN w t ⟨p.op,p.ctor,p.n,p.m,p.var,x⟩=ZN w t p:=rfl
   refine⟨⟨h1,h5,?_,fun i h h'=> ?_⟩,?_⟩
   ·show x.length=_
    rw[ht];omega
   ·show ZFU w d (ZN w t p)[i] x[i]
    have hi:i<(ZN w t p).length:=h
    have hi':i<x.length:=h'
    exact((g1 i (by omega)).2 hi (by omega) _ (x2 i hi' (by omega))).1
   ·rw[Pattern.wt_eq,p.wt_eq]
    refine ZIK (show x.length=_ by omega) fun i hi hi'=> ?_
    have hi2:i<x.length:=hi
    exact((g1 i (by omega)).2 (by omega) hi' _ (x2 i hi2 (by omega))).2
def anyP0 :Pattern:=⟨1,0,0,0,0,[]⟩
def ZLG (w:List Data)(k:Nat)(t:Ty)(p:Pattern):Prop:=p=anyP0∨(ZFU w (10-k) t p/\p.op≠2/\p.op≠6)
theorem ZJt {w:List Data}{d:Nat}{t:Ty}{p:Pattern}(h:ZFU w d t p):p.op=1∨p.op=2∨(p.op=3/\t.data= -1)∨(p.op=4/\p.ctor∈ZP w t)∨p.op=6:=by
 cases d with
 |zero=>exact h.elim
 |succ d=>
  obtain⟨h1,h2,_⟩:=h
  unfold ZDo at h1
  rcases h1 with h1|h1|h1|h1|h1|h1
  ·exact .inl h1.1
  ·exact .inr (.inl h1.1)
  ·exact .inr (.inr (.inl ⟨h1.1,h1.2.2.2.1⟩))
  ·exact .inr (.inr (.inr (.inl ⟨h1.1,h1.2.2.2.2⟩)))
  ·exact absurd h1.1 h2
  ·exact .inr (.inr (.inr (.inr h1.1)))
theorem P.YAg :F.f92=some anyP0:=rfl
theorem P.YAn {w:List Data}{t:Ty}(row:ZA)(path:List Int)(hp:path.length<=10):∀(d:Nat) (p:Pattern) (z:List PathBind),ZFU w d t p->z.length+1+p.wt<=1048576->(∀b,b∈z->b.path.length<=10)->
  ∃z' q,F.f113 row path z p.op p.ctor p.n p.m p.var p.kids=some (z',q.op,q.ctor,q.n,q.m,q.var,q.kids)/\ZFU w d t q/\q.op≠6/\z'.length+q.wt<=z.length+p.wt/\∀b,b∈z'->b.path.length<=10
 |0,_,_,h,_,_=>h.elim
 |d+1,p,z,h,hb,hz=>by
  rw[F.f113]
  by_cases h6:p.op=6
  ·have hs:=h
   obtain⟨h1,h2,h3,h4⟩:=h
   have ht:ZN w t p=[t]:=by unfold ZN;rw[if_neg (by omega),if_neg (by omega),if_pos h6]
   have k1:p.kids.length=1:=by rw[h3,ht];rfl
   have hk:=h4 0 (by rw[ht];simp) (by omega)
   simp only[ht,List.getElem_cons_zero]at hk
   have hw:1+p.kids[0].wt<=p.wt:=by rw[p.wt_eq];exact Zf Pattern.wt (gM _)
   rw[if_pos h6,if_pos (by omega),if_pos (by omega),if_pos (by omega),gQ (by omega)]
   simp only[oE,oS]
   obtain⟨z',q,e,a,b,c,f⟩:=P.YAn row path hp d p.kids[0] (z++[⟨p.var,path⟩]) hk (by simp;omega) (fun b hb=>by
    rcases List.mem_append.1 hb with hb|hb
    ·exact hz b hb
    ·rw[List.mem_singleton.1 hb];exact hp)
   exact⟨z',q,e,ZBx a,b,by simp at c;omega,f⟩
  ·rw[if_neg h6]
   exact⟨z,p,rfl,h,h6,Nat.le_refl _,hz⟩
theorem P.YAI {w:List Data}{t:Ty}{k:Nat}(row:ZA)(path:List Int)(hk:path.length<=k)(hk2:k<=10)(p:Pattern)(h:p=anyP0∨ZFU w (10-k) t p)(hb:row.f2.length+1+p.wt<=1048576)(hz:∀b,b∈row.f2->b.path.length<=10):
  ∃z q,F.f114 row p path=some (⟨row.f0,row.f1,z⟩,q)/\ZLG w k t q/\z.length+q.wt<=row.f2.length+1+p.wt/\(p=anyP0->z.length+q.wt<=row.f2.length)/\∀b,b∈z->b.path.length<=10:=by
 unfold F.f114
 rcases h with rfl|h
 ·rw[F.f113,if_neg (by decide)]
  simp only[oE,oS]
  rw[if_neg (by decide)]
  have hq0:(anyP0:Pattern).wt=0:=by rw[Pattern.wt_eq];rfl
  exact⟨row.f2,anyP0,rfl,.inl rfl,by omega,fun _=>by omega,hz⟩
 ·have hq00:(anyP0:Pattern).wt=0:=by rw[Pattern.wt_eq];rfl
  have hne:p=anyP0->row.f2.length+p.wt<=row.f2.length:=fun e=>by rw[e,hq00];exact Nat.le_refl _
  obtain⟨z,q,e,a,b,c,f⟩:=P.YAn row path (by omega) (10-k) p row.f2 h (by omega) hz
  rw[e]
  simp only[oE,oS]
  by_cases h2:q.op=2
  ·have hq0:(anyP0:Pattern).wt=0:=by rw[Pattern.wt_eq];rfl
   rw[if_pos h2,if_pos (by omega),if_pos (by omega),if_pos (by omega),P.YAg]
   simp only[oS]
   refine⟨_,_,rfl,.inl rfl,by rw[hq0];simp;omega,fun e=> ?_,fun b hb=> ?_⟩
   ·subst e
    have:q.op=1:=by
     have e2:=‹F.f113 _ _ _ _ _ _ _ _ _=_›
     rw[F.f113,if_neg (by decide)]at e2
     have:=Option.some.inj e2
     exact(congrArg (fun x=>x.2.1) this).symm
    omega
   ·rcases List.mem_append.1 hb with hb|hb
    ·exact f b hb
    ·rw[List.mem_singleton.1 hb];show path.length<=10;omega
  ·rw[if_neg h2]
   exact⟨z,q,(by cases q;rfl),.inr ⟨a,h2,b⟩,by omega,fun e=>by have:=hne e;omega,f⟩
structure RowOk (w:List Data)(cols:List ZD)(n W:Nat)(r:ZA):Prop where
 lo:0<=r.f0
 hi:r.f0<n
 len:r.f1.length=cols.length
 pat:∀i (h:i<r.f1.length) (h':i<cols.length),ZLG w cols[i].f0.length cols[i].f1 r.f1[i]
 wt:r.f2.length+(r.f1.map Pattern.wt).sum<=W
 path:∀b,b∈r.f2->b.path.length<=10
structure ColsOk (w:List Data)(cols:List ZD)(B:Nat):Prop where
 len:cols.length<=B
 ty:∀c,c∈cols->ZZ w c.f1
 path:∀c,c∈cols->c.f0.length<=10
theorem P.YAw (row:ZA):∀(m i:Nat),row.f1.length-i=m->(∀k (h:k<row.f1.length),k<i->row.f1[k].op=1)->
  (F.f118 row i=some (.go ())/\∀k (h:k<row.f1.length),row.f1[k].op=1)∨∃k,∃h:k<row.f1.length,F.f118 row i=some (.ret (k:Int))/\row.f1[k].op≠1
 |m,i,hm,ha=>by
  rw[F.f118]
  by_cases hi:i<row.f1.length
  ·rw[if_pos hi,gQ hi]
   simp only[oE,oS]
   by_cases h1:row.f1[i].op=1
   ·rw[if_pos h1]
    match m,hm with
    |0,hm=>omega
    |m+1,hm=>
     exact P.YAw row m (i+1) (by omega) fun k h hk=>by
      by_cases e:k=i
      ·subst e;exact h1
      ·exact ha k h (by omega)
   ·rw[if_neg h1];exact .inr ⟨i,hi,rfl,h1⟩
  ·rw[if_neg hi];exact .inl ⟨rfl,fun k h=>ha k h (by omega)⟩
theorem P.YA2 (row:ZA):(F.f119 row=some (-1)/\∀k (h:k<row.f1.length),row.f1[k].op=1)∨∃k:Nat,∃h:k<row.f1.length,F.f119 row=some (k:Int)/\row.f1[k].op≠1:=by
 unfold F.f119
 rcases P.YAw row _ 0 rfl (fun k _ h=>by omega)with⟨e,h⟩|⟨k,hk,e,h⟩
 ·rw[e];exact .inl ⟨rfl,h⟩
 ·rw[e];exact .inr ⟨k,hk,rfl,h⟩
theorem ZDM (n:Nat):∀l:List PathBind,l.countP (fun b=>decide ((n:Int)<=b.var))=l.countP (fun b=>decide (b.var=(n:Int)))+l.countP (fun b=>decide (((n+1:Nat):Int)<=b.var))
 | []=>rfl
 |x::l=>by
  rw[List.countP_cons,List.countP_cons,List.countP_cons,ZDM n l]
  simp only[decide_eq_true_eq]
  repeat' split
  all_goals omega
theorem P.YAd (l:List PathBind)(hp:∀b,b∈l->b.path.length<=10)(n:Nat):∀(m i:Nat) (out:List PathBind),l.length-i=m->out.length+m<=67108864->(∀b,b∈out->b.path.length<=10)->
  ∃r,F.f120 l n out i=some r/\r.length<=out.length+(l.drop i).countP (fun b=>decide (b.var=(n:Int)))/\∀b,b∈r->b.path.length<=10
 |0,i,out,hm,hb,ho=>by rw[F.f120,if_neg (by omega)];exact⟨out,rfl,by omega,ho⟩
 |m+1,i,out,hm,hb,ho=>by
  have hi:i<l.length:=by omega
  have h10:=hp _ (gM hi)
  rw[F.f120,if_pos hi,gQ hi,List.drop_eq_getElem_cons hi,List.countP_cons]
  simp only[oE,oS]
  split
  ·next hv=>
   rw[if_pos (by omega),if_pos (by omega),if_pos (by simp[hv])]
   obtain⟨r,e,a,b⟩:=P.YAd l hp n m (i+1) (out++[⟨(n:Int),l[i].path⟩]) (by omega) (by simp;omega) (fun b hb=>by
    rcases List.mem_append.1 hb with hb|hb
    ·exact ho b hb
    ·rw[List.mem_singleton.1 hb];exact h10)
   exact⟨r,e,by simp only[List.length_append,List.length_singleton]at a;omega,b⟩
  ·obtain⟨r,e,a,b⟩:=P.YAd l hp n m (i+1) out (by omega) (by omega) ho
   exact⟨r,e,by omega,b⟩
theorem P.YAy (l:List PathBind)(hl:l.length<=1048576)(hp:∀b,b∈l->b.path.length<=10):∀(m n:Nat) (out:List PathBind),6-n=m->out.length+l.countP (fun b=>decide ((n:Int)<=b.var))<=1048576->(∀b,b∈out->b.path.length<=10)->
  ∃r,F.f121 l out n=some r/\r.length<=out.length+l.countP (fun b=>decide ((n:Int)<=b.var))/\∀b,b∈r->b.path.length<=10
 |0,n,out,hm,hb,ho=>by rw[F.f121,if_neg (by omega)];exact⟨out,rfl,by omega,ho⟩
 |m+1,n,out,hm,hb,ho=>by
  have hs:=ZDM n l
  obtain⟨r,e,a,b⟩:=P.YAd l hp n _ 0 out rfl (by omega) ho
  rw[List.drop_zero]at a
  rw[F.f121,if_pos (by omega),e]
  simp only[oE,oS]
  rw[if_pos (by omega)]
  obtain⟨r2,e2,a2,b2⟩:=P.YAy l hl hp m (n+1) r (by omega) (by omega) b
  exact⟨r2,e2,by omega,b2⟩
theorem P.YA3 (l:List PathBind)(hl:l.length<=1048576)(hp:∀b,b∈l->b.path.length<=10):∃r,F.f122 l=some r/\r.length<=l.length/\∀b,b∈r->b.path.length<=10:=by
 have hc:=List.countP_le_length (p:=fun b:PathBind=>decide (((0:Nat):Int)<=b.var)) (l:=l)
 obtain⟨r,e,a,b⟩:=P.YAy l hl hp 6 0 [] rfl (by simp only[List.length_nil];omega) (by simp)
 unfold F.f122
 rw[e]
 exact⟨r,rfl,by simp only[List.length_nil]at a;omega,b⟩
theorem P.YAY (rows:List ZA)(c:Int)(hr:rows.length<=67108864):∀(m i:Nat) (out:List ZA),rows.length-i=m->i<=rows.length->out.length<=i->(∀r,r∈out->r∈rows)->
  ∃l,F.f123 rows c out i=some l/\l.length<=rows.length/\∀r,r∈l->r∈rows
 |m,i,out,hm,hir,ho,hq=>by
  rw[F.f123]
  by_cases hi:i<rows.length
  ·rw[if_pos hi,gQ hi]
   simp only[oE,oS]
   match m,hm with
   |0,hm=>omega
   |m+1,hm=>
    split
    ·exact P.YAY rows c hr m (i+1) out (by omega) (by omega) (by omega) hq
    ·rw[if_pos (by omega)]
     exact P.YAY rows c hr m (i+1) _ (by omega) (by omega) (by simp;omega) fun r h=>by
      rcases List.mem_append.1 h with h|h
      ·exact hq r h
      ·rw[List.mem_singleton.1 h];exact gM hi
  ·rw[if_neg hi];exact⟨out,rfl,by omega,hq⟩
theorem P.YA1 (rows:List ZA)(c:Int)(hr:rows.length<=67108864):∃l,F.f124 rows c=some l/\l.length<=rows.length/\∀r,r∈l->r∈rows:=by
 obtain⟨l,e,h⟩:=P.YAY rows c hr _ 0 [] rfl (by omega) (by simp) (by simp)
 unfold F.f124
 rw[e]
 exact⟨l,rfl,h⟩
theorem P.YAc (rows:List ZA)(a:Nat)(hr:rows.length<=67108864)(ha:∀r,r∈rows->a<r.f1.length):∀(m i n:Nat),rows.length-i=m->n<=i->i<=rows.length->∃c,F.f125 rows (a:Int) n i=some c
 |m,i,n,hm,hn,hir=>by
  rw[F.f125]
  by_cases hi:i<rows.length
  ·rw[if_pos hi,gQ hi]
   simp only[oE,oS]
   rw[Zx (ha _ (gM hi))]
   simp only[oS]
   match m,hm with
   |0,hm=>omega
   |m+1,hm=>
    split
    ·exact P.YAc rows a hr ha m (i+1) n (by omega) (by omega) (by omega)
    ·rw[if_pos (by omega)]
     exact P.YAc rows a hr ha m (i+1) (n+1) (by omega) (by omega) (by omega)
  ·rw[if_neg hi];exact⟨n,rfl⟩
theorem P.YAf (rows:List ZA)(a:Nat)(hr:rows.length<=67108864)(ha:∀r,r∈rows->a<r.f1.length):∃c,F.f126 rows (a:Int)=some c:=by
 obtain⟨c,e⟩:=P.YAc rows a hr ha _ 0 0 rfl (by omega) (by omega)
 unfold F.f126
 rw[e]
 exact⟨_,rfl⟩
theorem P.YBP (rows:List ZA)(a:Nat)(n:Int)(ha:∀r,r∈rows->a<r.f1.length):∀(m i:Nat),rows.length-i=m->∃c,F.f131 rows (a:Int) n i=some c
 |m,i,hm=>by
  rw[F.f131]
  by_cases hi:i<rows.length
  ·rw[if_pos hi,gQ hi]
   simp only[oE,oS]
   rw[Zx (ha _ (gM hi))]
   simp only[oS]
   match m,hm with
   |0,hm=>omega
   |m+1,hm=>
    split
    ·split
     ·exact⟨_,rfl⟩
     ·split
      ·exact⟨_,rfl⟩
      ·exact P.YBP rows a n ha m (i+1) (by omega)
    ·exact P.YBP rows a n ha m (i+1) (by omega)
  ·rw[if_neg hi];exact⟨_,rfl⟩
theorem P.YBT (rows:List ZA)(a:Nat)(n:Int)(ha:∀r,r∈rows->a<r.f1.length):∃c,F.f132 rows (a:Int) n=some c:=by
 obtain⟨c,e⟩:=P.YBP rows a n ha _ 0 rfl
 unfold F.f132
 rw[e]
 cases c<;>exact⟨_,rfl⟩
def ZFX (w:List Data)(t:Ty)(b:Branch):Prop:=if t.data= -1 then b.ctor= -1 else b.ctor∈ZP w t
theorem P.YAi (w:List Data)(t:Ty)(h1:t.data= -1)(rows:List ZA)(a:Nat)(ha:∀r,r∈rows->a<r.f1.length):∀(m n f:Nat) (out:List Branch),11-n=m->out.length<=n->n<=11->(∀b,b∈out->ZFX w t b)->
  ∃l,F.f134 rows (a:Int) out f n=some l/\l.length<=11/\∀b,b∈l->ZFX w t b
 |0,n,f,out,hm,ho,hn,hb=>by rw[F.f134,if_neg (by omega)];exact⟨out,rfl,by omega,hb⟩
 |m+1,n,f,out,hm,ho,hn,hb=>by
  have hb2:∀b,b∈out++[(⟨-1,(f:Int),i64.wrap ((n:Int) -1),⟨0,0,[],[],[],[]⟩⟩:Branch)]->ZFX w t b:=fun b h=>by
   rcases List.mem_append.1 h with h|h
   ·exact hb b h
   ·rw[List.mem_singleton.1 h];unfold ZFX;rw[if_pos h1]
  rw[F.f134,if_pos (by omega)]
  split
  ·rw[if_pos (by omega),if_pos (by omega)]
   exact P.YAi w t h1 rows a ha m (n+1) n _ (by omega) (by simp;omega) (by omega) hb2
  ·obtain⟨c,e⟩:=P.YBT rows a n ha
   rw[e]
   simp only[oE,oS]
   split
   ·rw[if_pos (by omega),if_pos (by omega)]
    exact P.YAi w t h1 rows a ha m (n+1) n _ (by omega) (by simp;omega) (by omega) hb2
   ·rw[if_pos (by omega)]
    exact P.YAi w t h1 rows a ha m (n+1) f out (by omega) (by omega) (by omega) hb
theorem ZMp {w:List Data}{t:Ty}(h:ZZ w t):tIx w t:=by
 obtain⟨h1|h1,h2⟩:=h
 ·exact .inl h1.1
 ·exact .inr ⟨h1.1,h1.2.1,h2,h1.2.2.2⟩
theorem P.YBB (c:Int)(ts:List Ty)(hl:ts.length<=67108864):∀(m i:Nat) (out:List Pattern),ts.length-i=m->out.length+m<=67108864->F.f127 c ts out i=some (out++List.replicate m anyP0)
 |0,i,out,hm,ho=>by rw[F.f127,if_neg (by omega)];simp
 |m+1,i,out,hm,ho=>by
  have hi:i<ts.length:=by omega
  rw[F.f127,if_pos hi,P.YAg]
  simp only[oE,oS]
  rw[if_pos (by omega),P.YBB c ts hl m (i+1) _ (by omega) (by simp;omega),List.replicate_succ]
  simp
theorem P.YBL {w:List Data}(hw:ZU w){t:Ty}(ht:tOk w t){c:Int}(h:c∈ZP w t):F.f128 w t c=some ⟨4,c,0,0,0,List.replicate (ZQ w t c).length anyP0⟩:=by
 have h3:=(ZGS hw ht h).1
 unfold F.f128
 rw[P.YB w hw t ht c h]
 simp only[oE,oS]
 rw[P.YBB c _ (by omega) _ 0 [] rfl (by simp;omega)]
 simp
theorem P.YAz {w:List Data}{T:List Int}(h:TOk w T)(p:Pattern)(ts:List Ty)(ht:∀a,a∈ts->ZZ w a)(hp:p.kids=List.replicate ts.length anyP0):∀(m i:Nat),ts.length-i=m->∃r,F.f130 w T p ts i=some r
 |m,i,hm=>by
  rw[F.f130]
  by_cases hi:i<ts.length
  ·rw[if_pos hi,gQ hi,hp,gQ (by simpa using hi)]
   simp only[oE,oS,List.getElem_replicate]
   rw[F.f129,if_pos (show anyP0.op=1 from rfl),P.YG h (ZMp (ht _ (gM hi)))]
   simp only[oE,oS]
   match m,hm with
   |0,hm=>omega
   |m+1,hm=>
    split
    ·exact P.YAz h p ts ht hp m (i+1) (by omega)
    ·exact⟨_,rfl⟩
  ·rw[if_neg hi];exact⟨_,rfl⟩
theorem P.YA4 {w:List Data}{T:List Int}(h:TOk w T){t:Ty}(ht:ZZ w t){c:Int}(hc:c∈ZP w t):∃b,F.f129 w T t ⟨4,c,0,0,0,List.replicate (ZQ w t c).length anyP0⟩=some b:=by
 rw[F.f129,if_neg (show ¬(4:Int)=1 by decide),if_neg (show ¬(4:Int)=3 by decide),P.YB w h.wok t (ZAO ht.1) c hc]
 simp only[oE,oS]
 obtain⟨r,e⟩:=P.YAz h ⟨4,c,0,0,0,List.replicate (ZQ w t c).length anyP0⟩ (ZQ w t c) (ZBS h.wok ht hc) rfl _ 0 rfl
 rw[e]
 cases r<;>exact⟨_,rfl⟩
theorem P.YAx {w:List Data}{T:List Int}(h:TOk w T){col:ZD}(ht:ZZ w col.f1):∀(m i:Nat) (out:List Branch),(ZP w col.f1).length-i=m->out.length+m<=100->(∀b,b∈out->ZFX w col.f1 b)->
  ∃l,F.f133 w col T (ZP w col.f1) out i=some l/\l.length<=out.length+m/\∀b,b∈l->ZFX w col.f1 b
 |0,i,out,hm,ho,hb=>by rw[F.f133,if_neg (by omega)];exact⟨out,rfl,by omega,hb⟩
 |m+1,i,out,hm,ho,hb=>by
  have hi:i<(ZP w col.f1).length:=by omega
  have hc:=gM hi
  obtain⟨b,e⟩:=P.YA4 h ht hc
  rw[F.f133,if_pos hi,gQ hi]
  simp only[oE,oS]
  rw[P.YBL h.wok (ZAO ht.1) hc]
  simp only[oS]
  rw[e]
  simp only[oS]
  split
  ·rw[if_pos (by omega)]
   obtain⟨l,e2,a,b2⟩:=P.YAx h ht m (i+1) (out++[⟨(ZP w col.f1)[i],0,0,⟨0,0,[],[],[],[]⟩⟩]) (by omega) (by simp;omega) (fun b hb2=>by
    rcases List.mem_append.1 hb2 with hb2|hb2
    ·exact hb b hb2
    ·rw[List.mem_singleton.1 hb2];unfold ZFX;rw[if_neg (Za hc).1];exact hc)
   exact⟨l,e2,by simp at a;omega,b2⟩
  ·obtain⟨l,e2,a,b2⟩:=P.YAx h ht m (i+1) out (by omega) (by omega) hb
   exact⟨l,e2,by omega,b2⟩
theorem P.YAa {w:List Data}{T:List Int}(h:TOk w T)(hT:F.f53 w=some T){col:ZD}(ht:ZZ w col.f1)(hcl:(ZP w col.f1).length<=50)(rows:List ZA)(a:Nat)(ha:∀r,r∈rows->a<r.f1.length):
  ∃l,F.f135 w col rows (a:Int)=some l/\l.length<=50/\∀b,b∈l->ZFX w col.f1 b:=by
 unfold F.f135
 split
 ·next h1=>
  obtain⟨l,e,b,c⟩:=P.YAi w col.f1 h1 rows a ha _ 1 0 [] rfl (by simp) (by omega) (by simp)
  rw[e]
  exact⟨l,rfl,by omega,c⟩
 ·rw[hT]
  simp only[oE,oS]
  rw[P.YH w h.wok _ (ZAO ht.1)]
  simp only[oS]
  obtain⟨l,e,b,c⟩:=P.YAx h ht _ 0 [] rfl (by simp;omega) (by simp)
  rw[e]
  exact⟨l,rfl,by simp at b;omega,c⟩
theorem ZBG {w:List Data}(hw:ZU w){t:Ty}(ht:tOk w t):(ZP w t).length<=4:=by
 unfold ZP
 split
 ·simp
 ·next hn=>
  have:=(Zs hw ht hn).1
  have h2:=ZEB t.index 0 (Zn w t).ctors
  omega
structure CompOk (w:List Data)(n:Nat)(cols:List ZD)(rows:List ZA)(B:Nat):Prop where
 okC:ColsOk w cols B
 okR:∀r,r∈rows->RowOk w cols n 60 r
 few:rows.length<=4000
theorem P.YAq {w:List Data}{T:List Int}(h:TOk w T)(hT:F.f53 w=some T){n:Nat}{cols:List ZD}{rows:List ZA}{B:Nat}(hc:CompOk w n cols rows B)(hB:B<=100000)(h0:0<rows.length)(pick:Int):
  ∀(m i best:Nat),cols.length-i=m->(∃h:best<(rows[0]).f1.length,(rows[0]).f1[best].op≠1)->∃b:Nat,F.f136 w cols rows pick (i:Int) (best:Int)=some (b:Int)/\∃h:b<(rows[0]).f1.length,(rows[0]).f1[b].op≠1
 |m,i,best,hm,hb=>by
  have hr0:=hc.okR _ (gM h0)
  have hlen:=hr0.len
  have hcl:=hc.okC.len
  have hall:∀a,a<cols.length->∀r,r∈rows->a<r.f1.length:=fun a ha r hr=>by rw[(hc.okR r hr).len];exact ha
  rw[F.f136]
  by_cases hi:i<cols.length
  ·rw[if_pos (by omega)]
   split
   ·exact⟨best,rfl,hb⟩
   ·rw[gQ h0]
    simp only[oE,oS]
    rw[Zx (by omega:i<(rows[0]).f1.length)]
    simp only[oS]
    have hw1:i64.wrap ((i:Int)+1)=((i+1:Nat):Int):=by rw[ZG (by omega) (by omega)];omega
    rw[hw1]
    obtain⟨hbl,hbo⟩:=hb
    match m,hm with
    |0,hm=>omega
    |m+1,hm=>
     split
     ·exact P.YAq h hT hc hB h0 pick m (i+1) best (by omega) ⟨hbl,hbo⟩
     ·next h1=>
      have hrec:=fun(b:Nat) (hb:∃h:b<(rows[0]).f1.length,(rows[0]).f1[b].op≠1)=>P.YAq h hT hc hB h0 pick m (i+1) b (by omega) hb
      have r1:=hrec best ⟨hbl,hbo⟩
      have r2:=hrec i ⟨by omega,h1⟩
      split
      ·obtain⟨c1,e1⟩:=P.YAf rows i (by have:=hc.few;omega) (hall i hi)
       obtain⟨c2,e2⟩:=P.YAf rows best (by have:=hc.few;omega) (hall best (by omega))
       rw[e1]
       simp only[oS]
       rw[e2]
       simp only[oS]
       split
       ·exact r2
       ·exact r1
      ·split
       ·have hbc:best<cols.length:=by omega
        have t1:=hc.okC.ty _ (gM hi)
        have t2:=hc.okC.ty _ (gM hbc)
        obtain⟨l1,e1,_⟩:=P.YAa h hT t1 (by have:=ZBG h.wok (ZAO t1.1);omega) rows i (hall i hi)
        obtain⟨l2,e2,_⟩:=P.YAa h hT t2 (by have:=ZBG h.wok (ZAO t2.1);omega) rows best (hall best hbc)
        rw[Zx hi]
        simp only[oS]
        rw[e1]
        simp only[oS]
        rw[Zx hbc]
        simp only[oS]
        rw[e2]
        simp only[oS]
        split
        ·exact r2
        ·exact r1
       ·exact r1
  ·rw[if_neg (by omega)];exact⟨best,rfl,hb⟩
theorem P.YBH {w:List Data}{T:List Int}(h:TOk w T)(hT:F.f53 w=some T){n:Nat}{cols:List ZD}{rows:List ZA}{B:Nat}(hc:CompOk w n cols rows B)(hB:B<=100000)(h0:0<rows.length)(pick:Int)
  {k:Nat} (hk:k<(rows[0]).f1.length) (he:F.f119 rows[0]=some (k:Int)) (ho:(rows[0]).f1[k].op≠1):∃b:Nat,F.f137 w cols rows pick=some (b:Int)/\∃h:b<(rows[0]).f1.length,(rows[0]).f1[b].op≠1:=by
 have hlen:=(hc.okR _ (gM h0)).len
 have hcl:=hc.okC.len
 unfold F.f137
 rw[gQ h0]
 simp only[oE,oS]
 rw[he]
 simp only[oS]
 rw[ZG (by omega) (by omega),show((k:Int)+1)=((k+1:Nat):Int)from by omega]
 obtain⟨b,e,hb⟩:=P.YAq h hT hc hB h0 pick _ (k+1) k rfl ⟨hk,ho⟩
 rw[e]
 exact⟨b,rfl,hb⟩
def Zl (path:List Int):Nat->List Ty->List ZD
 |_,[]=>[]
 |k,t::r=>⟨path++[(k:Int)],t⟩::Zl path (k+1) r
theorem Zj (path:List Int):∀(k:Nat) (ts:List Ty),(Zl path k ts).length=ts.length
 |_,[]=>rfl
 |k,t::r=>by simp[Zl,Zj path (k+1) r]
theorem ZBH (path:List Int):∀(k:Nat) (ts:List Ty) (i:Nat) (h:i<(Zl path k ts).length) (h':i<ts.length),(Zl path k ts)[i]=⟨path++[((k+i:Nat):Int)],ts[i]⟩
 |k,[],i,h,h'=>absurd h' (by simp)
 |k,t::r,0,h,h'=>rfl
 |k,t::r,i+1,h,h'=>by
  have:=ZBH path (k+1) r i (by simpa[Zl]using h) (by simpa using h')
  simp only[Zl,List.getElem_cons_succ,this]
  congr 3
  omega
noncomputable def Zr (w:List Data)(c:ZD)(b:Branch):List Ty:=if b.ctor= -1 then[]else ZQ w c.f1 b.ctor
noncomputable def ZX (w:List Data)(cols:List ZD)(a:Nat)(c:ZD)(b:Branch):List ZD:=cols.take a++Zl c.f0 0 (Zr w c b)++cols.drop (a+1)
theorem P.YAe (cols:List ZD)(a:Nat)(ha:a<cols.length)(hp:cols[a].f0.length<=1048576)(ts:List Ty):∀(m i:Nat) (out:List ZD),ts.length-i=m->out.length+m<=67108864->F.f139 cols (a:Int) ts out i=some (out++Zl cols[a].f0 i (ts.drop i))
 |0,i,out,hm,ho=>by rw[F.f139,if_neg (by omega),List.drop_eq_nil_of_le (by omega)];simp[Zl]
 |m+1,i,out,hm,ho=>by
  have hi:i<ts.length:=by omega
  rw[F.f139,if_pos hi,Zx ha]
  simp only[oE,oS]
  unfold F.f138
  rw[if_pos (by omega),if_pos (by omega)]
  simp only[oS]
  rw[gQ hi]
  simp only[oS]
  rw[if_pos (by omega),P.YAe cols a ha hp ts m (i+1) _ (by omega) (by simp;omega),List.drop_eq_getElem_cons hi]
  simp[Zl]
theorem ZCN {w:List Data}(hw:ZU w){c:ZD}(ht:ZZ w c.f1){b:Branch}(hb:ZFX w c.f1 b):(Zr w c b).length<=3/\∀t,t∈Zr w c b->ZZ w t:=by
 unfold Zr
 unfold ZFX at hb
 split
 ·simp
 ·next h1=>
  split at hb
  ·exact absurd hb h1
  ·exact⟨(ZGS hw (ZAO ht.1) hb).1,ZBS hw ht hb⟩
theorem P.YAO {w:List Data}(hw:ZU w){cols:List ZD}{B:Nat}(hc:ColsOk w cols B)(hB:B<=100000){a:Nat}(ha:a<cols.length){b:Branch}(hb:ZFX w cols[a].f1 b):F.f140 w cols (a:Int) b=some (ZX w cols a cols[a] b):=by
 have hl:=hc.len
 have ht:=hc.ty _ (gM ha)
 have hp:=hc.path _ (gM ha)
 have hw1:i64.wrap ((a:Int)+1)=((a+1:Nat):Int):=by rw[ZG (by omega) (by omega)];omega
 have hn:=ZCN hw ht hb
 unfold F.f140
 rw[hw1]
 simp only[Int.toNat_natCast,List.drop_zero,Nat.sub_zero]
 have hdrop:(cols.drop (a+1)).take (cols.length- (a+1))=cols.drop (a+1):=List.take_of_length_le (by simp)
 rw[hdrop,if_pos (by omega),if_pos (by simp;omega)]
 by_cases h1:b.ctor= -1
 ·rw[if_pos h1,if_pos (by omega),if_pos (by simp;omega)]
  simp[ZX,Zr,h1,Zl]
 ·unfold ZFX at hb
  split at hb
  ·exact absurd hb h1
  ·have e:Zr w cols[a] b=ZQ w cols[a].f1 b.ctor:=by unfold Zr;rw[if_neg h1]
   rw[e]at hn
   rw[if_neg h1,Zx ha]
   simp only[oE,oS]
   rw[P.YB w hw _ (ZAO ht.1) _ hb]
   simp only[oS]
   rw[P.YAe cols a ha (by omega) _ _ 0 _ rfl (by simp;omega)]
   simp only[oS]
   rw[if_pos (by omega),if_pos (by simp[Zj];omega)]
   simp[ZX,e]
def ZJe (p:Pattern)(j:Nat):Nat:=if p.op=4 then((p.kids.drop j).map fun k=>1+k.wt).sum else 0
theorem ZG5 :anyP0.wt=0:=by rw[Pattern.wt_eq];rfl
set_option maxHeartbeats 4000000 in
theorem P.YBU {w:List Data}(cols:List ZD)(rows:List ZA){a nl S:Nat}(ha:a<cols.length)(hcl:cols.length<=100000)(hnl:nl<=3)(b:Branch)(v:List ZD)(hv:v.length=a+nl+(cols.length- (a+1)))
  (out:List ZA) (i:Nat) (x:Pattern) (f0:Int) (hS:S<=1000)
  (hvp:∀k (h:k<v.length),v[k].f0.length<=10)
  (hx:x.op=4->x.kids.length=nl) (hk:x.op=4->∀j (h:j<x.kids.length) (h':a+j<v.length),ZFU w (10-v[a+j].f0.length) v[a+j].f1 x.kids[j]):
  ∀(m j:Nat) (z:List PathBind) (o:List Pattern),nl-j=m->j<=nl->o.length=a+j->(∀k (h:k<o.length) (h':k<v.length),ZLG w v[k].f0.length v[k].f1 o[k])->(∀b,b∈z->b.path.length<=10)->z.length+(o.map Pattern.wt).sum+ZJe x j<=S->
  ∃z' o',F.f142 cols rows (a:Int) b v out i x f0 z o ((a+j:Nat):Int)=some (f0,z',o')/\o'.length=a+nl/\(∀k (h:k<o'.length) (h':k<v.length),ZLG w v[k].f0.length v[k].f1 o'[k])/\(∀b,b∈z'->b.path.length<=10)/\z'.length+(o'.map Pattern.wt).sum<=S:=by
 have e1:i64.wrap ((v.length:Int) -i64.wrap (i64.wrap ((cols.length:Int) - (a:Int)) -1))=((a+nl:Nat):Int):=by
  have a1:i64.wrap ((cols.length:Int) - (a:Int))=(cols.length:Int) - (a:Int):=ZG (by omega) (by omega)
  have a2:i64.wrap ((cols.length:Int) - (a:Int) -1)=(cols.length:Int) - (a:Int) -1:=ZG (by omega) (by omega)
  rw[a1,a2,ZG (by omega) (by omega)]
  omega
 have ol:∀l:List Pattern,l.length<=100010->l.length+1<=67108864:=fun l h=>by omega
 intro m
 induction m with
 |zero=>
  intro j z o hm hj ho hc hz hs
  rw[F.f142.eq_def,e1,if_neg (by omega)]
  exact⟨z,o,rfl,by omega,hc,hz,by omega⟩
 |succ m ih=>
  intro j z o hm hj ho hc hz hs
  have hlt:j<nl:=by omega
  rw[F.f142.eq_def,e1]
  have hva:a+j<v.length:=by omega
  have hw1:i64.wrap (((a+j:Nat):Int)+1)=((a+(j+1):Nat):Int):=by rw[ZG (by omega) (by omega)];omega
  rw[if_pos (by omega),P.YAg,hw1]
  simp only[oE,oS]
  have next:∀(z':List PathBind) (q:Pattern),ZLG w v[a+j].f0.length v[a+j].f1 q->(∀b,b∈z'->b.path.length<=10)->z'.length+q.wt+(o.map Pattern.wt).sum+ZJe x (j+1)<=S->
    ∃z'' o',F.f142 cols rows (a:Int) b v out i x f0 z' (o++[q]) ((a+(j+1):Nat):Int)=some (f0,z'',o')/\o'.length=a+nl/\(∀k (h:k<o'.length) (h':k<v.length),ZLG w v[k].f0.length v[k].f1 o'[k])/\(∀b,b∈z''->b.path.length<=10)/\z''.length+(o'.map Pattern.wt).sum<=S:=fun z' q hq hz' hs'=>
   ih (j+1) z' (o++[q]) (by omega) (by omega) (by simp;omega) (fun k h h'=>by
    by_cases e:k<o.length
    ·rw[List.getElem_append_left e];exact hc k e h'
    ·have:k=a+j:=by simp at h;omega
     subst this
     rw[List.getElem_append_right (by omega)]
     simpa[ho]using hq) hz' (by simp;omega)
  split
  ·next h4=>
   have hkl:=hx h4
   have hrem:ZJe x j=(1+x.kids[j].wt)+ZJe x (j+1):=by
    unfold ZJe
    rw[if_pos h4,if_pos h4,List.drop_eq_getElem_cons (by omega:j<x.kids.length),List.map_cons,List.sum_cons]
   rw[ZG (by omega) (by omega),show((a+j:Nat):Int) - (a:Int)=(j:Int)from by omega,Zx (by omega:j<x.kids.length)]
   simp only[oS]
   rw[Zx hva]
   simp only[oS]
   obtain⟨z',q,e2,c1,c2,_,c4⟩:=P.YAI (w:=w) (t:=v[a+j].f1) (k:=v[a+j].f0.length) ⟨f0,o,z⟩ v[a+j].f0 (Nat.le_refl _) (hvp _ hva) x.kids[j] (.inr (hk h4 j (by omega) hva)) (by show z.length+1+_<=_;omega) hz
   rw[e2]
   simp only[oS]
   rw[if_pos (ol o (by omega))]
   exact next z' q c1 c4 (by show _;simp only at c2;omega)
  ·next h4=>
   have hrem:ZJe x j=ZJe x (j+1):=by unfold ZJe;rw[if_neg h4,if_neg h4]
   rw[Zx hva]
   simp only[oS]
   obtain⟨z',q,e2,c1,_,c3,c4⟩:=P.YAI (w:=w) (t:=v[a+j].f1) (k:=v[a+j].f0.length) ⟨f0,o,z⟩ v[a+j].f0 (Nat.le_refl _) (hvp _ hva) anyP0 (.inl rfl) (by rw[ZG5];show z.length+1+_<=_;omega) hz
   rw[e2]
   simp only[oS]
   rw[if_pos (ol o (by omega))]
   have c3:=c3 rfl
   exact next z' q c1 c4 (by simp only at c3;omega)
theorem P.YBJ (p:Pattern)(b:Branch):∃v,F.f141 p b=some v/\(v=true->p.op=1∨p.op=3∨p.ctor=b.ctor):=by
 unfold F.f141
 split
 ·next h=>exact⟨_,rfl,fun _=>.inl h⟩
 ·split
  ·next h=>
   split
   ·exact⟨_,rfl,fun _=>.inr (.inl h)⟩
   ·exact⟨_,rfl,fun _=>.inr (.inl h)⟩
  ·exact⟨_,rfl,fun h=>.inr (.inr (of_decide_eq_true h))⟩
theorem ZDG {w:List Data}{cols:List ZD}{a:Nat}(ha:a<cols.length)(b:Branch):(ZX w cols a cols[a] b).length=a+(Zr w cols[a] b).length+(cols.length- (a+1)):=by
 simp[ZX,Zj];omega
theorem ZHh {w:List Data}{cols:List ZD}{a:Nat}(ha:a<cols.length)(b:Branch){k:Nat}(hk:k<a)(h:k<(ZX w cols a cols[a] b).length):(ZX w cols a cols[a] b)[k]=cols[k]:=by
 revert h;unfold ZX;intro h
 rw[List.getElem_append_left (by simp[Zj];omega),List.getElem_append_left (by simp;omega),List.getElem_take]
theorem ZF1 {w:List Data}{cols:List ZD}{a:Nat}(ha:a<cols.length)(b:Branch){j:Nat}(hj:j<(Zr w cols[a] b).length)(h:a+j<(ZX w cols a cols[a] b).length):(ZX w cols a cols[a] b)[a+j]=⟨cols[a].f0++[(j:Int)],(Zr w cols[a] b)[j]⟩:=by
 revert h;unfold ZX;intro h
 rw[List.getElem_append_left (by simp[Zj];omega),List.getElem_append_right (by simp;omega)]
 have e:a+j- (cols.take a).length=j:=by simp;omega
 simp only[e]
 rw[ZBH _ _ _ _ _ hj]
 simp
theorem ZHi {w:List Data}{cols:List ZD}{a:Nat}(ha:a<cols.length)(b:Branch){j:Nat}(hj:a+1+j<cols.length)(h:a+(Zr w cols[a] b).length+j<(ZX w cols a cols[a] b).length):(ZX w cols a cols[a] b)[a+(Zr w cols[a] b).length+j]=cols[a+1+j]:=by
 revert h;unfold ZX;intro h
 rw[List.getElem_append_right (by simp[Zj];omega)]
 have e:a+(Zr w cols[a] b).length+j- (cols.take a++Zl cols[a].f0 0 (Zr w cols[a] b)).length=j:=by simp[Zj];omega
 simp only[e]
 rw[List.getElem_drop]
theorem ZDp {w:List Data}(hw:ZU w){cols:List ZD}{B:Nat}(hc:ColsOk w cols B){a:Nat}(ha:a<cols.length)(h9:cols[a].f0.length<=9){b:Branch}(hb:ZFX w cols[a].f1 b):ColsOk w (ZX w cols a cols[a] b) (B+3):=by
 have hn:=ZCN hw (hc.ty _ (gM ha)) hb
 have hl:=hc.len
 have mem:∀c,c∈ZX w cols a cols[a] b->c∈cols∨∃j,∃h:j<(Zr w cols[a] b).length,c=⟨cols[a].f0++[(j:Int)],(Zr w cols[a] b)[j]⟩:=by
  intro c h
  unfold ZX at h
  rcases List.mem_append.1 h with h|h
  ·rcases List.mem_append.1 h with h|h
   ·exact .inl (List.mem_of_mem_take h)
   ·obtain⟨j,hj,rfl⟩:=List.getElem_of_mem h
    have hj2:j<(Zr w cols[a] b).length:=by rw[Zj]at hj;exact hj
    refine .inr ⟨j,hj2,?_⟩
    rw[ZBH _ _ _ _ _ hj2]
    simp
  ·exact .inl (List.mem_of_mem_drop h)
 refine⟨by rw[ZDG ha];omega,fun c h=> ?_,fun c h=> ?_⟩
 ·rcases mem c h with h|⟨j,hj,rfl⟩
  ·exact hc.ty c h
  ·exact hn.2 _ (gM hj)
 ·rcases mem c h with h|⟨j,hj,rfl⟩
  ·exact hc.path c h
  ·simp;omega
theorem P.YA9 {w:List Data}(hw:ZU w){cols:List ZD}{B:Nat}(hc:ColsOk w cols B)(hB:B<=100000){a:Nat}(ha:a<cols.length)(h9:cols[a].f0.length<=9){b:Branch}(hb:ZFX w cols[a].f1 b){n:Nat}{x:ZA}(hx:RowOk w cols n 60 x)(hxa:a<x.f1.length)
  (fit:x.f1[a].op=1∨x.f1[a].op=3∨x.f1[a].ctor=b.ctor) (rows:List ZA) (out:List ZA) (i:Nat):
  ∃z o,F.f142 cols rows (a:Int) b (ZX w cols a cols[a] b) out i x.f1[a] x.f0 x.f2 (x.f1.take a) (a:Int)=some (x.f0,z,o)/\o.length<=a+3/\RowOk w (ZX w cols a cols[a] b) n 60 ⟨x.f0,o++x.f1.drop (a+1),z⟩:=by
 have hlen:=hx.len
 have hcl:=hc.len
 have hn:=ZCN hw (hc.ty _ (gM ha)) hb
 have hok:=ZDp hw hc ha h9 hb
 have hvl:=ZDG (w:=w) ha b
 have hpa:=hx.pat a hxa ha
 have hsum:(x.f1.map Pattern.wt).sum=((x.f1.take a).map Pattern.wt).sum+x.f1[a].wt+((x.f1.drop (a+1)).map Pattern.wt).sum:=by
  have e0:x.f1=x.f1.take a++x.f1[a]::x.f1.drop (a+1):=by rw[←List.drop_eq_getElem_cons hxa,List.take_append_drop]
  have e1:=congrArg (fun l=>(l.map Pattern.wt).sum) e0
  simp only[List.map_append,List.map_cons,List.sum_append,List.sum_cons]at e1
  omega
 have hwt:=hx.wt
 have op4:x.f1[a].op=4->ZFU w (10-cols[a].f0.length) cols[a].f1 x.f1[a]:=fun h4=>by
  rcases hpa with e|⟨e,_⟩
  ·rw[e]at h4;cases h4
  ·exact e
 have ty4:x.f1[a].op=4->ZN w cols[a].f1 x.f1[a]=Zr w cols[a] b:=fun h4=>by
  have hct:x.f1[a].ctor=b.ctor:=by
   rcases fit with f|f|f
   ·omega
   ·omega
   ·exact f
  rcases ZJt (op4 h4)with h|h|⟨h,_⟩|⟨_,h⟩|h
  ·omega
  ·omega
  ·omega
  ·have:=(Za h).2.1
   unfold ZN Zr
   rw[if_pos h4,hct,if_neg (by omega)]
  ·omega
 have hrem:ZJe x.f1[a] 0<=x.f1[a].wt:=by
  have key:∀l:List Pattern,(l.map fun k=>1+k.wt).sum=wtL Pattern.wt l:=by
   intro l
   induction l with
   |nil=>rfl
   |cons a r ih=>simp[ih]
  unfold ZJe
  split
  ·rw[List.drop_zero,key,←Pattern.wt_eq];exact Nat.le_refl _
  ·exact Nat.zero_le _
 obtain⟨z,o,e,o1,o2,o3,o4⟩:=P.YBU (w:=w) cols rows (nl:=(Zr w cols[a] b).length) (S:=x.f2.length+((x.f1.take a).map Pattern.wt).sum+x.f1[a].wt) ha (by omega) hn.1 b (ZX w cols a cols[a] b) hvl out i x.f1[a] x.f0 (by omega)
  (fun k h=>hok.path _ (gM h))
  (fun h4=>by
   have:=op4 h4
   have h3:=ty4 h4
   revert this
   cases hd:10-cols[a].f0.length with
   |zero=>intro h;exact h.elim
   |succ d=>intro h;rw[h.2.2.1,h3])
  (fun h4 j hj hv=>by
   have:=op4 h4
   have h3:=ty4 h4
   have hd:10-cols[a].f0.length=(9-cols[a].f0.length)+1:=by omega
   rw[hd]at this
   have hk:=this.2.2.1
   have hj2:j<(Zr w cols[a] b).length:=by rw[←h3];omega
   have hs:=this.2.2.2 j (by omega) hj
   simp only[h3]at hs
   rw[ZF1 ha b hj2]
   have h10:10- (cols[a].f0++[(j:Int)]).length=9-cols[a].f0.length:=by simp only[List.length_append,List.length_singleton];omega
   simp only[h10]
   exact hs)
  _ 0 x.f2 (x.f1.take a) rfl (Nat.zero_le _) (by simp;omega)
  (fun k h h'=>by
   have hka:k<a:=by simp at h;omega
   rw[ZHh ha b hka,List.getElem_take]
   exact hx.pat k (by omega) (by omega))
  hx.path (by omega)
 refine⟨z,o,e,by have:=hn.1;omega,⟨hx.lo,hx.hi,?_,fun k h h'=> ?_,?_,o3⟩⟩
 ·show(o++x.f1.drop (a+1)).length=_
  rw[hvl,List.length_append,List.length_drop,o1];omega
 ·show ZLG w _ _ (o++x.f1.drop (a+1))[k]
  by_cases hk:k<o.length
  ·rw[List.getElem_append_left hk];exact o2 k hk h'
  ·obtain⟨j,rfl⟩:∃j,k=a+(Zr w cols[a] b).length+j:=⟨k- (a+(Zr w cols[a] b).length),by omega⟩
   have hj:a+1+j<cols.length:=by omega
   rw[ZHi ha b hj,List.getElem_append_right (by omega),List.getElem_drop]
   have e2:a+1+(a+(Zr w cols[a] b).length+j-o.length)=a+1+j:=by omega
   simp only[e2]
   exact hx.pat (a+1+j) (by omega) hj
 ·show z.length+((o++x.f1.drop (a+1)).map Pattern.wt).sum<=60
  rw[List.map_append,List.sum_append];omega
theorem P.YBV {w:List Data}(hw:ZU w){cols:List ZD}{B:Nat}(hc:ColsOk w cols B)(hB:B<=100000){a:Nat}(ha:a<cols.length)(h9:cols[a].f0.length<=9){b:Branch}(hb:ZFX w cols[a].f1 b){n:Nat}{rows:List ZA}(hr:∀r,r∈rows->RowOk w cols n 60 r)(hrl:rows.length<=4000):
  ∀(m i:Nat) (out:List ZA),rows.length-i=m->out.length<=i->i<=rows.length->(∀r,r∈out->RowOk w (ZX w cols a cols[a] b) n 60 r)->
  ∃l,F.f143 cols rows (a:Int) b (ZX w cols a cols[a] b) out i=some l/\l.length<=rows.length/\∀r,r∈l->RowOk w (ZX w cols a cols[a] b) n 60 r:=by
 intro m
 induction m with
 |zero=>
  intro i out hm ho hi hq
  rw[F.f143.eq_def,if_neg (by omega)]
  exact⟨out,rfl,by omega,hq⟩
 |succ m ih=>
  intro i out hm ho hi hq
  have hil:i<rows.length:=by omega
  have hx:=hr _ (gM hil)
  have hlen:=hx.len
  have hcl:=hc.len
  have hxa:a<rows[i].f1.length:=by omega
  obtain⟨v8,e8,fit⟩:=P.YBJ rows[i].f1[a] b
  rw[F.f143.eq_def,if_pos hil,gQ hil]
  simp only[oE,oS]
  rw[Zx hxa]
  simp only[oS]
  rw[e8]
  simp only[oS]
  by_cases h8:v8=true
  ·obtain⟨z,o,e,ho3,hrow⟩:=P.YA9 hw hc hB ha h9 hb hx hxa (fit h8) rows out i
   have hw1:i64.wrap ((a:Int)+1)=((a+1:Nat):Int):=by rw[ZG (by omega) (by omega)];omega
   rw[if_pos h8,hw1]
   simp only[Int.toNat_natCast,List.drop_zero,Nat.sub_zero]
   have hdrop:(rows[i].f1.drop (a+1)).take (rows[i].f1.length- (a+1))=rows[i].f1.drop (a+1):=List.take_of_length_le (by simp)
   rw[if_pos (by omega),if_pos (by simp;omega),e]
   simp only[oS]
   rw[hdrop,if_pos (by omega),if_pos (by simp;omega),if_pos (by omega),if_pos (by omega)]
   refine ih (i+1) _ (by omega) (by simp;omega) (by omega) fun r h=> ?_
   rcases List.mem_append.1 h with h|h
   ·exact hq r h
   ·rw[List.mem_singleton.1 h];exact hrow
  ·rw[if_neg h8]
   exact ih (i+1) out (by omega) (by omega) (by omega) hq
theorem P.YBI {w:List Data}(hw:ZU w){cols:List ZD}{B:Nat}(hc:ColsOk w cols B)(hB:B<=100000){a:Nat}(ha:a<cols.length)(h9:cols[a].f0.length<=9){b:Branch}(hb:ZFX w cols[a].f1 b){n:Nat}{rows:List ZA}(hr:∀r,r∈rows->RowOk w cols n 60 r)(hrl:rows.length<=4000):
  ∃l,F.f144 w cols rows (a:Int) b=some l/\l.length<=rows.length/\∀r,r∈l->RowOk w (ZX w cols a cols[a] b) n 60 r:=by
 obtain⟨l,e,h⟩:=P.YBV hw hc hB ha h9 hb hr hrl _ 0 [] rfl (by simp) (by omega) (by simp)
 unfold F.f144
 rw[P.YAO hw hc hB ha hb]
 simp only[oE,oS]
 rw[e]
 exact⟨l,rfl,h⟩
theorem ZG1 :∀(l:List PathBind),(∀b,b∈l->b.path.length<=10)->wtL PathBind.wt l<=11*l.length
 | [],_=>Nat.le_refl _
 |x::l,h=>by
  have h1:=ZG1 l fun b hb=>h b (List.mem_cons_of_mem _ hb)
  have h2:=h x (by simp)
  have hz:∀l:List Int,(l.map fun _=>0).sum=0:=by
   intro l
   induction l with
   |nil=>rfl
   |cons a r ih=>rw[List.map_cons,List.sum_cons,ih]
  have h3:PathBind.wt x=x.path.length:=by unfold PathBind.wt wtL;rw[hz];rfl
  rw[ZA0,List.length_cons]
  omega
theorem CompOk.more {w:List Data}{n:Nat}{cols:List ZD}{rows:List ZA}{B C:Nat}(h:CompOk w n cols rows B)(hB:B<=C):CompOk w n cols rows C:=⟨⟨Nat.le_trans h.okC.len hB,h.okC.ty,h.okC.path⟩,h.okR,h.few⟩
theorem ZJh {α:Type}(f:α->Nat)(l:List α)(x:α):wtL f (l++[x])=wtL f l+(1+f x):=by simp[wtL];omega
theorem ZA3 :Tree.wt ⟨0,0,[],[],[],[]⟩=0:=by rw[Tree.wt_eq];rfl
theorem ZKI (c:Int)(b:List PathBind):Tree.wt ⟨1,c,b,[],[],[]⟩=wtL PathBind.wt b:=by rw[Tree.wt_eq];rfl
theorem ZJA (c:Int)(b:List PathBind)(t:Tree):Tree.wt ⟨1,c,b,[],[],[t]⟩=wtL PathBind.wt b+1+t.wt:=by rw[Tree.wt_eq];simp;omega
theorem ZHK (p:List Int)(b:List Branch):Tree.wt ⟨2,0,[],p,b,[]⟩=p.length+wtL Branch.wt b:=by rw[Tree.wt_eq];simp[ZFZ]
theorem ZJT {w:List Data}{k:Nat}{t:Ty}{p:Pattern}(h:ZLG w k t p)(ho:p.op≠1):k<=9:=by
 rcases h with rfl|⟨h,_⟩
 ·exact absurd rfl ho
 ·have:10-k≠0:=fun e=>by rw[e]at h;exact h.elim
  omega
def ZAN (c d:ZD):Prop:=¬c.f0<+:d.f0/\¬d.f0<+:c.f0
theorem ZBI {c d:ZD}(h:ZAN c d)(k:Int)(t:Ty):ZAN c ⟨d.f0++[k],t⟩:=by
 refine⟨fun h1=> ?_,fun h1=>h.2 ((List.prefix_append _ _).trans h1)⟩
 rcases List.prefix_concat_iff.1 h1 with e|e
 ·exact h.2 (by rw[e];exact List.prefix_append _ _)
 ·exact h.1 e
theorem ZAU {path:List Int}{c:ZD}:∀{ts:List Ty} {k:Nat},c∈Zl path k ts->∃j:Nat,∃t,k<=j/\c=⟨path++[(j:Int)],t⟩
 | [],k,h=>by cases h
 |t::r,k,h=>by
  rcases List.mem_cons.1 h with h|h
  ·exact⟨k,t,Nat.le_refl _,h⟩
  ·obtain⟨j,t',a,b⟩:=ZAU h
   exact⟨j,t',by omega,b⟩
theorem ZBZ (path:List Int):∀(ts:List Ty) (k:Nat),(Zl path k ts).Pairwise ZAN
 | [],k=>.nil
 |t::r,k=>by
  refine .cons (fun c hc=> ?_) (ZBZ path r (k+1))
  obtain⟨j,t',hj,rfl⟩:=ZAU hc
  have ne:path++[(k:Int)]≠path++[(j:Int)]:=fun e=>by
   have:=List.append_cancel_left e
   simp at this;omega
  exact⟨fun h=>ne (h.eq_of_length (by simp)),fun h=>ne (h.eq_of_length (by simp)).symm⟩
theorem ZEy {w:List Data}{cols:List ZD}(h:cols.Pairwise ZAN){a:Nat}(ha:a<cols.length)(b:Branch):(ZX w cols a cols[a] b).Pairwise ZAN/\∀c,c∈ZX w cols a cols[a] b->(∃d,d∈cols/\d.f0<+:c.f0)/\¬c.f0<+:cols[a].f0:=by
 have e:cols=cols.take a++cols[a]::cols.drop (a+1):=by rw[←List.drop_eq_getElem_cons ha,List.take_append_drop]
 have h':=h
 rw[e]at h'
 obtain⟨p1,p2,p3⟩:=List.pairwise_append.1 h'
 obtain⟨p4,p5⟩:=List.pairwise_cons.1 p2
 have ext:∀c d k (t:Ty),ZAN d c->ZAN ⟨c.f0++[k],t⟩ d:=fun c d k t h=>⟨(ZBI h k t).2,(ZBI h k t).1⟩
 refine⟨?_,fun c hc=> ?_⟩
 ·unfold ZX
  refine List.pairwise_append.2 ⟨List.pairwise_append.2 ⟨p1,ZBZ _ _ _,fun c hc d hd=> ?_⟩,p5,fun c hc d hd=> ?_⟩
  ·obtain⟨j,t,_,rfl⟩:=ZAU hd
   exact ZBI (p3 c hc _ List.mem_cons_self) _ _
  ·rcases List.mem_append.1 hc with hc|hc
   ·exact p3 c hc d (List.mem_cons_of_mem _ hd)
   ·obtain⟨j,t,_,rfl⟩:=ZAU hc
    have:=p4 d hd
    exact ext _ _ _ _ ⟨this.2,this.1⟩
 ·unfold ZX at hc
  rcases List.mem_append.1 hc with hc|hc
  ·rcases List.mem_append.1 hc with hc|hc
   ·exact⟨⟨c,List.mem_of_mem_take hc,List.prefix_refl _⟩,(p3 c hc _ List.mem_cons_self).1⟩
   ·obtain⟨j,t,_,rfl⟩:=ZAU hc
    exact⟨⟨cols[a],gM ha,List.prefix_append _ _⟩,fun h=>by have:=h.length_le;simp at this;omega⟩
  ·exact⟨⟨c,List.mem_of_mem_drop hc,List.prefix_refl _⟩,(p4 c hc).2⟩
inductive TestedT :Tree->List Int->Prop
 |here (x:Tree) (h:x.op=2):TestedT x x.path
 |br (x:Tree) (b:Branch) (hb:b∈x.branches) (q:List Int) (h:TestedT b.tree q):TestedT x q
 |els (x y:Tree) (hy:y∈x.els) (q:List Int) (h:TestedT y q):TestedT x q
inductive OnceT :Tree->Prop
 |mk (x:Tree) (h1:x.op=2->(∀b,b∈x.branches->¬TestedT b.tree x.path)/\∀y,y∈x.els->¬TestedT y x.path) (h2:∀b,b∈x.branches->OnceT b.tree) (h3:∀y,y∈x.els->OnceT y):OnceT x
theorem ZBM {o c:Int}{bs:List PathBind}{p:List Int}{q:List Int}(ho:o≠2):¬TestedT ⟨o,c,bs,p,[],[]⟩ q:=by
 intro h
 cases h with
 |here _ h=>exact ho h
 |br _ b hb=>cases hb
 |els _ b hb=>cases hb
theorem ZAS {o c:Int}{bs:List PathBind}{p:List Int}(ho:o≠2):OnceT ⟨o,c,bs,p,[],[]⟩:=.mk _ (fun h=>absurd h ho) (fun b hb=>by cases hb) (fun b hb=>by cases hb)
def ZFg (t:Tree):Prop:=∀y,Sub y t->wtL PathBind.wt y.binds+y.path.length<=700
theorem ZAP {o c:Int}{bs:List PathBind}{p:List Int}(h:wtL PathBind.wt bs+p.length<=700):ZFg ⟨o,c,bs,p,[],[]⟩:=by
 intro y hy
 cases hy with
 |refl=>exact h
 |br _ b hb=>cases hb
 |els _ b hb=>cases hb
theorem P.YBF {w:List Data}{T:List Int}(h:TOk w T)(hT:F.f53 w=some T)(list:List Clause)(hll:list.length<=67108864)(pick:Int):
  ∀(N L:Nat) (cols:List ZD) (rows:List ZA),L<N->L<=300->CompOk w list.length cols rows (1+3*(300-L))->
   ∃(t:Tree) (L':Int),F.f145 w list pick cols rows (L:Int)=some (t,L')/\-1<=L'/\L'<L/\(t.wt:Int)+1<=1000*((L:Int) -L')/\(cols.Pairwise ZAN->OnceT t/\∀q,TestedT t q->∃c,c∈cols/\c.f0<+:q)/\ZFg t:=by
 intro N
 induction N with
 |zero=>intro L cols rows hN;omega
 |succ N ih=>
 intro L cols rows hN hL hc
 have hw1:i64.wrap ((L:Int) -1)=(L:Int) -1:=ZG (by omega) (by omega)
 rw[F.f145.eq_def,hw1]
 by_cases h0:(L:Int) -1<0
 ·rw[if_pos h0]
  exact⟨_,_,rfl,by omega,by omega,by rw[ZA3];omega,fun _=>⟨ZAS (by decide),fun q h=>absurd h (ZBM (by decide))⟩,ZAP (by simp)⟩
 rw[if_neg h0]
 by_cases hr0:rows.length=0
 ·rw[if_pos hr0]
  exact⟨_,_,rfl,by omega,by omega,by rw[ZA3];omega,fun _=>⟨ZAS (by decide),fun q h=>absurd h (ZBM (by decide))⟩,ZAP (by simp)⟩
 rw[if_neg hr0]
 have h0r:0<rows.length:=by omega
 have hx:=hc.okR _ (gM h0r)
 rw[gQ h0r]
 simp only[oE,oS]
 have hlen:=hx.len
 have hB:=hc.okC.len
 have hfew:=hc.few
 have hL1:(L:Int) -1=((L-1:Nat):Int):=by omega
 rcases P.YA2 rows[0]with⟨e,ha⟩|⟨k,hk,e,ho⟩
 ·rw[e]
  simp only[oS]
  rw[if_pos (by decide)]
  have hwt:=hx.wt
  obtain⟨bs,e2,b1,b2⟩:=P.YA3 rows[0].f2 (by omega) hx.path
  have b3:=ZG1 bs b2
  rw[e2]
  simp only[oS]
  have hlo:=hx.lo
  have hhi:=hx.hi
  obtain⟨c,hcn⟩:∃c:Nat,rows[0].f0=(c:Int):=⟨rows[0].f0.toNat,by omega⟩
  have hcl:c<list.length:=by omega
  rw[hcn,Zx hcl]
  simp only[oS]
  by_cases hg:list[c].guard.op=0
  ·rw[if_pos hg]
   exact⟨_,_,rfl,by omega,by omega,by rw[ZKI];omega,fun _=>⟨ZAS (by decide),fun q h=>absurd h (ZBM (by decide))⟩,ZAP (by simp;omega)⟩
  ·rw[if_neg hg]
   obtain⟨l,e3,l1,l2⟩:=P.YA1 rows (c:Int) (by omega)
   rw[e3]
   simp only[oS]
   obtain⟨t,L',e4,t1,t2,t3,t4,t5⟩:=ih (L-1) cols l (by omega) (by omega) (CompOk.more ⟨hc.okC,fun r hr=>hc.okR r (l2 r hr),by omega⟩ (by omega))
   rw[hL1,e4]
   refine⟨_,_,rfl,by omega,by omega,by rw[ZJA];simp only;omega,fun hp=> ?_,fun y hy=> ?_⟩
   rotate_left
   ·cases hy with
    |refl=>show wtL PathBind.wt bs+0<=700;omega
    |br _ b hb=>cases hb
    |els _ z hz h=>rw[List.mem_singleton.1 hz]at h;exact t5 y h
   obtain⟨o1,o2⟩:=t4 hp
   refine⟨.mk _ (fun h=>absurd h (show(1:Int)≠2 by decide)) (fun b hb=>by cases hb) (fun y hy=>by rw[List.mem_singleton.1 hy];exact o1),fun q h=> ?_⟩
   cases h with
   |here _ h=>exact absurd h (show(1:Int)≠2 by decide)
   |br _ b hb=>cases hb
   |els _ y hy _ h=>rw[List.mem_singleton.1 hy]at h;exact o2 q h
 ·rw[e]
  simp only[oS]
  rw[if_neg (by omega)]
  obtain⟨a,e2,ha,hao⟩:=P.YBH h hT hc (by omega) h0r pick hk e ho
  rw[e2]
  simp only[oS]
  have hac:a<cols.length:=by omega
  have h9:cols[a].f0.length<=9:=ZJT (hx.pat a ha hac) hao
  have hty:=hc.okC.ty _ (gM hac)
  rw[Zx hac]
  simp only[oS]
  rw[if_pos (by omega)]
  obtain⟨cs,e3,c1,c2⟩:=P.YAa h hT hty (by have:=ZBG h.wok (ZAO hty.1);omega) rows a (fun r hr=>by rw[(hc.okR r hr).len];exact hac)
  rw[e3]
  simp only[oS]
  have loop:∀(m i:Nat) (out:List Branch) (K:Int),cs.length-i=m->out.length<=i->-1<=K->K<L->(wtL Branch.wt out:Int)<=1000*((L:Int) -1-K)->(cols.Pairwise ZAN->∀b,b∈out->OnceT b.tree/\¬TestedT b.tree cols[a].f0/\∀q,TestedT b.tree q->∃c,c∈cols/\c.f0<+:q)->(∀b,b∈out->ZFg b.tree)->
    ∃(l:List Branch) (K':Int),F.f146 w list pick cols rows (a:Int) cols[a] cs out i K=some (l,K')/\-1<=K'/\K'<L/\(wtL Branch.wt l:Int)<=1000*((L:Int) -1-K')/\(cols.Pairwise ZAN->∀b,b∈l->OnceT b.tree/\¬TestedT b.tree cols[a].f0/\∀q,TestedT b.tree q->∃c,c∈cols/\c.f0<+:q)/\∀b,b∈l->ZFg b.tree:=by
   intro m
   induction m with
   |zero=>
    intro i out K hm ho2 k1 k2 k3 k4 k5
    rw[F.f146.eq_def,if_neg (by omega)]
    exact⟨_,_,rfl,k1,k2,k3,k4,k5⟩
   |succ m ihm=>
    intro i out K hm ho2 k1 k2 k3 k4 k5
    have hi:i<cs.length:=by omega
    rw[F.f146.eq_def,if_pos hi]
    by_cases hK:0<=K
    ·rw[if_pos hK,gQ hi]
     simp only[oE,oS]
     have hb:=c2 _ (gM hi)
     rw[P.YAO h.wok hc.okC (by omega) hac hb]
     simp only[oS]
     obtain⟨l,e4,l1,l2⟩:=P.YBI h.wok hc.okC (by omega) hac h9 hb hc.okR (by omega)
     rw[e4]
     simp only[oS]
     obtain⟨kn,rfl⟩:∃kn:Nat,K=(kn:Int):=⟨K.toNat,by omega⟩
     have hno:=ZDp h.wok hc.okC hac h9 hb
     obtain⟨t,L',e5,t1,t2,t3,t4,t5⟩:=ih kn _ l (by omega) (by omega) (CompOk.more ⟨hno,l2,by omega⟩ (by omega))
     rw[e5]
     simp only[oS]
     rw[if_pos (by omega)]
     refine ihm (i+1) _ L' (by omega) (by simp;omega) t1 (by omega) ?_ (fun hp b hb2=> ?_) (fun b hb2=> ?_)
     rotate_left 2
     ·rcases List.mem_append.1 hb2 with hb2|hb2
      ·exact k5 b hb2
      ·rw[List.mem_singleton.1 hb2];exact t5
     rotate_left
     ·rcases List.mem_append.1 hb2 with hb2|hb2
      ·exact k4 hp b hb2
      ·rw[List.mem_singleton.1 hb2]
       obtain⟨n1,n2⟩:=ZEy (w:=w) hp hac cs[i]
       obtain⟨o1,o2⟩:=t4 n1
       refine⟨o1,fun h=> ?_,fun q h=> ?_⟩
       ·obtain⟨c,hc,hq⟩:=o2 _ h
        exact(n2 c hc).2 hq
       ·obtain⟨c,hc,hq⟩:=o2 _ h
        obtain⟨⟨d,hd,hd2⟩,_⟩:=n2 c hc
        exact⟨d,hd,hd2.trans hq⟩
     rw[ZJh]
     show((wtL Branch.wt out+(1+t.wt):Nat):Int)<=_
     omega
    ·rw[if_neg hK]
     exact⟨_,_,rfl,k1,k2,k3,k4,k5⟩
  obtain⟨l,K',e4,k1,k2,k3,k4,k5⟩:=loop _ 0 [] ((L:Int) -1) rfl (by simp) (by omega) (by omega) (by simp) (fun _ b hb=>by cases hb) (fun b hb=>by cases hb)
  rw[e4]
  refine⟨_,_,rfl,k1,k2,by rw[ZHK];simp only;omega,fun hp=>⟨.mk _ (fun _=>⟨fun b hb=>(k4 hp b hb).2.1,fun y hy=>by cases hy⟩) (fun b hb=>(k4 hp b hb).1) (fun y hy=>by cases hy),fun q h=> ?_⟩,fun y hy=> ?_⟩
  rotate_left
  ·cases hy with
   |refl=>show wtL PathBind.wt []+cols[a].f0.length<=700;rw[ZLK];omega
   |br _ b hb h=>exact k5 b hb y h
   |els _ z hz=>cases hz
  cases h with
  |here _ h=>exact⟨cols[a],gM hac,List.prefix_refl _⟩
  |br _ b hb _ h=>exact(k4 hp b hb).2.2 q h
  |els _ y hy=>cases hy
theorem P.YBC {w:List Data}{t:Ty}(list:List Clause){i:Nat}(hi:i<list.length)(hi2:list.length<=8)(v:List Pattern)(hv:∀q,q∈v->ZFU w 10 t q/\q.wt<=59):
  ∀(m k:Nat) (out:List ZA),v.length-k=m->out.length+m<=4000->(∀r,r∈out->RowOk w [⟨[],t⟩] list.length 60 r)->
   ∃l,F.f115 list i v out k=some l/\l.length=out.length+m/\∀r,r∈l->RowOk w [⟨[],t⟩] list.length 60 r
 |0,k,out,hm,ho,hr=>by rw[F.f115,if_neg (by omega)];exact⟨_,rfl,by omega,hr⟩
 |m+1,k,out,hm,ho,hr=>by
  have hk:k<v.length:=by omega
  obtain⟨s1,s2⟩:=hv _ (gM hk)
  obtain⟨z,q,e,c1,c2,_,c4⟩:=P.YAI (w:=w) (t:=t) (k:=0) ⟨(i:Int),[],[]⟩ [] (by simp) (by omega) v[k] (.inr s1) (by simp;omega) (by simp)
  rw[F.f115,if_pos hk,gQ hk]
  simp only[oE,oS]
  rw[e]
  simp only[oS]
  rw[if_pos (by omega)]
  obtain⟨l,e2,l1,l2⟩:=P.YBC list hi hi2 v hv m (k+1) (out++[⟨(i:Int),[q],z⟩]) (by omega) (by simp;omega) (fun r h=>by
   rcases List.mem_append.1 h with h|h
   ·exact hr r h
   ·rw[List.mem_singleton.1 h]
    refine⟨by simp,by simp;omega,rfl,fun j h h'=> ?_,by simp at c2 ⊢;omega,c4⟩
    have:j=0:=by simp at h;omega
    subst this
    exact c1)
  exact⟨l,e2,by simp at l1;omega,l2⟩
theorem P.YBD {w:List Data}{t:Ty}(list:List Clause)(hl:list.length<=8)(hp:∀c,c∈list->ZAX w 10 t c.pat/\c.pat.wt<=59):
  ∀(m i:Nat) (out:List ZA),list.length-i=m->out.length+m*401<=4000->(∀r,r∈out->RowOk w [⟨[],t⟩] list.length 60 r)->
   ∃l,F.f116 list out i=some l/\l.length<=out.length+m*401/\∀r,r∈l->RowOk w [⟨[],t⟩] list.length 60 r
 |0,i,out,hm,ho,hr=>by rw[F.f116,if_neg (by omega)];exact⟨_,rfl,by omega,hr⟩
 |m+1,i,out,hm,ho,hr=>by
  have hi:i<list.length:=by omega
  obtain⟨s1,s2⟩:=hp _ (gM hi)
  obtain⟨v,e,v1,v2⟩:=P.YAJ w 10 t list[i].pat s1 (by omega)
  obtain⟨l,e2,l1,l2⟩:=P.YBC (w:=w) (t:=t) list hi hl v (fun q hq=>⟨(v2 q hq).1,by have:=(v2 q hq).2;omega⟩) _ 0 out rfl (by omega) hr
  rw[F.f116,if_pos hi,gQ hi]
  simp only[oE,oS]
  rw[e]
  simp only[oS]
  rw[e2]
  simp only[oS]
  rw[if_pos (by omega)]
  obtain⟨l',e3,q1,q2⟩:=P.YBD list hl hp m (i+1) l (by omega) (by omega) l2
  exact⟨l',e3,by omega,q2⟩
theorem P.YAT {w:List Data}{t:Ty}(list:List Clause)(pick:Int)(hp:∀c,c∈list->ZAX w 10 t c.pat/\c.pat.wt<=59):
  ∀(m i:Nat),list.length-i=m->F.f147 w t list pick i=some (.ret (⟨0,0,[],[],[],[]⟩,false))∨F.f147 w t list pick i=some (.go ())
 |0,i,hm=>by rw[F.f147,if_neg (by omega)];exact .inr rfl
 |m+1,i,hm=>by
  have hi:i<list.length:=by omega
  obtain⟨s1,s2⟩:=hp _ (gM hi)
  obtain⟨v,e,v1,v2⟩:=P.YAJ w 10 t list[i].pat s1 (by omega)
  rw[F.f147,if_pos hi,gQ hi]
  simp only[oE,oS]
  rw[e]
  simp only[oS]
  split
  ·exact .inl rfl
  ·exact P.YAT list pick hp m (i+1) (by omega)
theorem P.YAm {w:List Data}{T:List Int}(h:TOk w T)(hT:F.f53 w=some T){t:Ty}(ht:ZZ w t)(list:List Clause)(hl:list.length<=8)(hp:∀c,c∈list->ZAX w 10 t c.pat/\c.pat.wt<=59)(pick:Int):
  ∃x b,F.f148 w t list pick=some (x,b)/\x.wt+1<=301000/\OnceT x/\ZFg x:=by
 unfold F.f148
 rcases P.YAT (w:=w) (t:=t) list pick hp _ 0 rfl with e|e
 ·rw[e];exact⟨_,_,rfl,by rw[ZA3];omega,ZAS (by decide),ZAP (by simp)⟩
 ·rw[e]
  simp only[oE,oS]
  obtain⟨l,e2,l1,l2⟩:=P.YBD (w:=w) (t:=t) list hl hp _ 0 [] rfl (by simp;omega) (by simp)
  unfold F.f117
  rw[e2]
  simp only[oE,oS]
  obtain⟨x,L',e3,x1,x2,x3,x4,x5⟩:=P.YBF h hT list (by omega) pick 301 300 [⟨[],t⟩] l (by omega) (by omega) ⟨⟨by simp,fun c hc=>by rw[List.mem_singleton.1 hc];exact ht,fun c hc=>by rw[List.mem_singleton.1 hc];simp⟩,l2,by simp at l1;omega⟩
  have e3:F.f145 w list pick [⟨[],t⟩] l 300=some (x,L'):=e3
  rw[e3]
  simp only[oS]
  split
  ·exact⟨_,_,rfl,by rw[ZA3];omega,ZAS (by decide),ZAP (by simp)⟩
  ·exact⟨_,_,rfl,by omega,(x4 (List.pairwise_singleton _ _)).1,x5⟩
theorem P.Yy {w:List Data}(hw:ZBA w){T:List Int}(h:TOk w T)(hT:F.f53 w=some T)(t:Ty)(list:List Clause)(hp:∀c,c∈list->c.pat.wt<=1048576)(pick:Int):
  ∃x b,F.f149 w t list pick=some (x,b)/\x.wt+1<=301000/\OnceT x/\ZFg x:=by
 unfold F.f149
 rw[P.Yd w hw t list hp]
 simp only[oE,oS]
 by_cases hc:ZOw w t list
 ·rw[if_pos (ZI hc)]
  split
  ·exact⟨_,_,rfl,by rw[ZA3];omega,ZAS (by decide),ZAP (by simp)⟩
  split
  ·exact⟨_,_,rfl,by rw[ZA3];omega,ZAS (by decide),ZAP (by simp)⟩
  ·obtain⟨x,b,e,hx⟩:=P.YAm h hT hc.1.2 list hc.2.1 (fun c h=>⟨(hc.2.2 c h).1.1,by have:=(hc.2.2 c h).1.2.2;omega⟩) pick
   rw[e]
   exact⟨_,_,rfl,hx⟩
 ·rw[if_neg (by rw[ZH hc];decide)]
  exact⟨_,_,rfl,by rw[ZA3];omega,ZAS (by decide),ZAP (by simp)⟩
theorem P.YBE {w:List Data}(hw:ZU w){t:Ty}(ht:ZZ w t):∀(k K:Nat) (z:List Int) (z2:Int) (out:List Clause),k<=5->rok K ⟨z,z2⟩->K+k*21000<=1099511627776->out.length+k<=100->(∀c,c∈out->ZDB w t c.pat)->
  ∃z' z2' l,F.f89 w t z z2 out (k:Int)=some (z',z2',l)/\rok (K+k*21000) ⟨z',z2'⟩/\l.length=out.length+k/\∀c,c∈l->ZDB w t c.pat
 |0,K,z,z2,out,hk,hr,hK,ho,hp=>by
  rw[F.f89,if_neg (by omega)]
  exact⟨_,_,_,rfl,hr.mono (by omega),rfl,hp⟩
 |k+1,K,z,z2,out,hk,hr,hK,ho,hp=>by
  have hw1:i64.wrap (((k+1:Nat):Int) -1)=(k:Int):=by rw[ZG (by omega) (by omega)];omega
  obtain⟨c,r',e,h1,h2⟩:=P.YAr hw ht hr (by omega)
  rw[F.f89,if_pos (by omega),e,hw1]
  simp only[oE,oS]
  rw[if_pos (by omega)]
  obtain⟨z',z2',l,e2,q1,q2,q3⟩:=P.YBE hw ht k (K+21000) r'.f0 r'.f1 (out++[c]) (by omega) h1 (by omega) (by simp;omega) (fun x h=>by
   rcases List.mem_append.1 h with h|h
   ·exact hp x h
   ·rw[List.mem_singleton.1 h];exact h2)
  exact⟨z',z2',l,e2,q1.mono (by omega),by simp at q2;omega,q3⟩
theorem P.YBM {w:List Data}(hw:ZU w){t:Ty}(ht:ZZ w t){K:Nat}{r:ZE}(hr:rok K r)(hK:K+106000<=1099511627776):∃l r',F.f90 r w t=some (l,r')/\rok (K+106000) r'/\l.length<=5/\∀c,c∈l->ZDB w t c.pat:=by
 unfold F.f90
 obtain⟨v,r1,e1,h1,hv⟩:=P.num hr (by omega) [3,2,4,5,1,0] (by simp)
 obtain⟨k,rfl,hk⟩:∃k:Nat,v=(k:Int)/\k<=5:=by
  simp at hv
  exact⟨v.toNat,by omega,by omega⟩
 obtain⟨z',z2',l,e2,q1,q2,q3⟩:=P.YBE hw ht k _ r1.f0 r1.f1 [] hk h1 (by omega) (by simp;omega) (by simp)
 rw[e1]
 simp only[oE,oS]
 rw[e2]
 exact⟨_,_,rfl,q1.mono (by omega),by simp at q2;simp only;omega,q3⟩
theorem P.Ys (v:Int×ZE):∀(k:Nat) (out:List Clause),out.length+k=9->(∀c,c∈out->c.pat.wt<=1000010)->∃l,F.f94 v out=some l/\l.length=9/\∀c,c∈l->c.pat.wt<=1000010
 |0,out,h,hp=>by rw[F.f94,if_neg (by omega)];exact⟨_,rfl,by omega,hp⟩
 |k+1,out,h,hp=>by
  rw[F.f94,if_pos (by omega),if_pos (by omega)]
  exact P.Ys v k (out++[⟨⟨1,0,0,0,0,[]⟩,⟨0,0,0⟩⟩]) (by simp;omega) (fun c hc=>by
   rcases List.mem_append.1 hc with hc|hc
   ·exact hp c hc
   ·rw[List.mem_singleton.1 hc];simp only;rw[ZBX];omega)
theorem P.Yt {K:Nat}{r:ZE}(hr:rok K r)(hK:K+5<=1099511627776)(l:List Clause)(hl:l.length<=8)(hp:∀c,c∈l->c.pat.wt<=1000000):∃l' r',F.f95 r l=some (l',r')/\rok (K+5) r'/\l'.length<=9/\∀c,c∈l'->c.pat.wt<=1000010:=by
 have hp':∀c,c∈l->c.pat.wt<=1000010:=fun c h=>by have:=hp c h;omega
 have setOk:∀x:Clause,x.pat.wt<=1000010->∀c,c∈l.set 0 x->c.pat.wt<=1000010:=fun x hx c hc=>by
  rcases List.mem_or_eq_of_mem_set hc with h|h
  ·exact hp' c h
  ·rw[h];exact hx
 unfold F.f95
 rw[if_pos (by omega)]
 obtain⟨v,r1,e1,h1,_⟩:=P.YI hr (by omega) 24
 rw[e1]
 simp only[oE,oS]
 split
 ·split
  ·next h0=>
   obtain⟨v2,r2,e2,h2,_⟩:=P.num h1 (by omega) [1,2,3,-1] (by simp)
   obtain⟨v3,r3,e3,h3,_⟩:=P.num h2 (by omega) [0,5,9] (by simp)
   obtain⟨v4,r4,e4,h4,_⟩:=P.num h3 (by omega) [3,10,-1] (by simp)
   rw[e2]
   simp only[oS]
   rw[e3]
   simp only[oS]
   rw[e4]
   simp only[oS]
   rw[gQ h0]
   exact⟨_,_,rfl,h4.mono (by omega),by simp;omega,setOk _ (by simpa using hp' _ (gM h0))⟩
  ·exact⟨_,_,rfl,h1.mono (by omega),by omega,hp'⟩
 split
 ·split
  ·next h0=>
   have hx:=hp _ (gM h0)
   obtain⟨p2,r2,e2,h2,w2⟩:=P.YAP h1 (by omega) l[0].pat (by omega)
   obtain⟨p3,r3,e3,h3,w3⟩:=P.YAP h2 (by omega) p2 (by omega)
   rw[gQ h0]
   simp only[oS]
   rw[e2]
   simp only[oS]
   rw[e3]
   exact⟨_,_,rfl,h3.mono (by omega),by simp;omega,setOk _ (by show p3.wt<=_;omega)⟩
  ·exact⟨_,_,rfl,h1.mono (by omega),by omega,hp'⟩
 split
 ·obtain⟨l',e2,q1,q2⟩:=P.Ys (v,r1) (9-l.length) l (by omega) hp'
  rw[e2]
  exact⟨_,_,rfl,h1.mono (by omega),by omega,q2⟩
 ·exact⟨_,_,rfl,h1.mono (by omega),by omega,hp'⟩
theorem P.YA5 {K:Nat}{r:ZE}(hr:rok K r)(hK:K+107000<=1099511627776):∃w t l v r' T,F.f91 r=some (w,t,l,v,r')/\rok (K+107000) r'/\w∈ZAH/\F.f53 w=some T/\TOk w T/\ZZ w t/\l.length<=5/\(∀c,c∈l->ZDB w t c.pat)/\pv w false 4 t v/\v.wt+1<=256:=by
 obtain⟨w,t,v,r1,T,e1,h1,hw,hT',hT,a1,a2,a3,_,hv,hvw,a4⟩:=P.YAu hr (by omega)
 have ht:ZZ w t:=by
  refine⟨?_,a3⟩
  rcases a1 with q|⟨q1,q2,q3,q4⟩
  ·exact .inl ⟨q,a4 q⟩
  ·exact .inr ⟨q1,q2,by omega,q4⟩
 obtain⟨l,r2,e2,h2,l1,l2⟩:=P.YBM hT.wok ht h1 (by omega)
 unfold F.f91
 rw[e1]
 simp only[oE,oS]
 rw[e2]
 exact⟨w,t,l,v,r2,T,rfl,h2.mono (by omega),hw,hT',hT,ht,l1,l2,hv,hvw⟩
theorem P.YT (code:List Int)(hc:ZA5 code):∃w t l T,F.f96 code=some (w,t,l)/\w∈ZAH/\F.f53 w=some T/\TOk w T/\ZZ w t/\l.length<=9/\∀c,c∈l->c.pat.wt<=1000010:=by
 have key:∀r,rok 0 r->∃w t l T,((F.f91 r)>>=fun v=>
   if 0<v.2.2.1.length then
    (F.f1 v.2.2.2.2 4)>>=fun v9=>
    if v9.1=0 then
     (F.f92)>>=fun v13=>
     if v.2.2.1.length+1<=67108864 then
      (F.f95 v9.2 (v.2.2.1++[(⟨v13,(⟨0,0,0⟩:Guard)⟩:Clause)]))>>=fun v16=>
      some (v.1,v.2.1,v16.1)
     else none
    else
     (F.f95 v9.2 v.2.2.1)>>=fun v18=>
     some (v.1,v.2.1,v18.1)
   else
    (F.f95 v.2.2.2.2 v.2.2.1)>>=fun v20=>
    some (v.1,v.2.1,v20.1))=some (w,t,l)/\w∈ZAH/\F.f53 w=some T/\TOk w T/\ZZ w t/\l.length<=9/\∀c,c∈l->c.pat.wt<=1000010:=by
  intro r hr
  obtain⟨w,t,l,v,r1,T,e1,h1,hw,hT',hT,ht,l1,l2,_⟩:=P.YA5 hr (by omega)
  have hlw:∀c,c∈l->c.pat.wt<=1000000:=fun c h=>by have:=(l2 c h).2.2;omega
  rw[e1]
  simp only[oE,oS]
  split
  ·obtain⟨v9,r2,e2,h2,_⟩:=P.YI h1 (by omega) 4
   rw[e2]
   simp only[oS]
   split
   ·rw[P.YAg]
    simp only[oS]
    rw[if_pos (by omega)]
    obtain⟨l',r3,e3,_,q1,q2⟩:=P.Yt h2 (by omega) (l++[⟨anyP0,⟨0,0,0⟩⟩]) (by simp;omega) (fun c h=>by
     rcases List.mem_append.1 h with h|h
     ·exact hlw c h
     ·rw[List.mem_singleton.1 h];simp only;rw[ZG5];omega)
    rw[e3]
    exact⟨_,_,_,T,rfl,hw,hT',hT,ht,q1,q2⟩
   ·obtain⟨l',r3,e3,_,q1,q2⟩:=P.Yt h2 (by omega) l (by omega) hlw
    rw[e3]
    exact⟨_,_,_,T,rfl,hw,hT',hT,ht,q1,q2⟩
  ·obtain⟨l',r3,e3,_,q1,q2⟩:=P.Yt h1 (by omega) l (by omega) hlw
   rw[e3]
   exact⟨_,_,_,T,rfl,hw,hT',hT,ht,q1,q2⟩
 unfold F.f96
 split
 ·rw[if_pos (by omega)];exact key _ (ZEE hc)
 ·exact key _ (ZCv hc (by omega))
theorem P.YS (code:List Int)(hc:ZA5 code):∃w t l T,F.f97 code=some (w,t,l)/\w∈ZAH/\F.f53 w=some T/\TOk w T/\ZZ w t/\l.length<=9/\∀c,c∈l->c.pat.wt<=1000010:=by
 obtain⟨w,t,l,T,e,hw,hT',hT,ht,l1,l2⟩:=P.YT code hc
 have key:∀r,rok 0 r->∃l',(if 0<l.length then
   if l.length<8 then
    (F.f1 r 2)>>=fun v12=>
    if v12.1=0 then
     (F.f1 v12.2 (l.length:Int))>>=fun v16=>
     (at? l v16.1)>>=fun x=>
     if l.length+1<=67108864 then
      some (w,t,l++[x])
     else none
    else
     some (w,t,l)
   else
    some (w,t,l)
  else
   some (w,t,l))=some (w,t,l')/\l'.length<=9/\∀c,c∈l'->c.pat.wt<=1000010:=by
  intro r hr
  split
  ·next h0=>
   split
   ·obtain⟨v12,r2,e2,h2,_⟩:=P.YI hr (by omega) 2
    rw[e2]
    simp only[oE,oS]
    split
    ·obtain⟨v16,r3,e3,h3,a1,a2,_⟩:=P.YI h2 (by omega) (l.length:Int)
     have a3:=a2 (by omega)
     obtain⟨k,rfl⟩:∃k:Nat,v16=(k:Int):=⟨v16.toNat,by omega⟩
     have hk:k<l.length:=by omega
     rw[e3]
     simp only[oS]
     rw[Zx hk]
     simp only[oS]
     rw[if_pos (by omega)]
     refine⟨_,rfl,by simp;omega,fun c h=> ?_⟩
     rcases List.mem_append.1 h with h|h
     ·exact l2 c h
     ·rw[List.mem_singleton.1 h];exact l2 _ (gM hk)
    ·exact⟨_,rfl,l1,l2⟩
   ·exact⟨_,rfl,l1,l2⟩
  ·exact⟨_,rfl,l1,l2⟩
 unfold F.f97
 rw[e]
 simp only[oE,oS]
 split
 ·rw[if_pos (by omega)]
  obtain⟨l',e2,q⟩:=key _ (ZEE hc)
  exact⟨w,t,l',T,e2,hw,hT',hT,ht,q⟩
 ·obtain⟨l',e2,q⟩:=key _ (ZCv hc (by omega))
  exact⟨w,t,l',T,e2,hw,hT',hT,ht,q⟩
theorem P.YA8 (code:List Int)(hc:ZA5 code):∃r,F.f98 code=some r/\rok 0 r:=by
 unfold F.f98
 split
 ·rw[if_pos (by omega)];exact⟨_,rfl,ZEE hc⟩
 ·exact⟨_,rfl,ZCv hc (by omega)⟩
theorem P.YBK (code:List Int)(hc:ZA5 code):∃w t l k T,F.f99 code=some (w,t,l,k)/\w∈ZAH/\F.f53 w=some T/\TOk w T/\ZZ w t/\l.length<=9/\∀c,c∈l->c.pat.wt<=1000010:=by
 obtain⟨w,t,l,T,e,h⟩:=P.YS code hc
 obtain⟨r,e2,hr⟩:=P.YA8 code hc
 obtain⟨v,r1,e3,h1,hv⟩:=P.num hr (by omega) [0,1,2,0,1,2,3,-1] (by simp)
 unfold F.f99
 rw[e]
 simp only[oE,oS]
 rw[e2]
 simp only[oS]
 rw[e3]
 exact⟨w,t,l,v,T,rfl,h⟩
theorem P.YBG (code:List Int)(hc:ZA5 code):∃x,F.f150 code=some x/\x.wt+1<=301000/\OnceT x/\ZFg x:=by
 obtain⟨w,t,l,k,T,e,hw,hT',hT,ht,l1,l2⟩:=P.YBK code hc
 obtain⟨x,b,e2,hx⟩:=P.Yy (ZCg hw) hT hT' t l (fun c h=>by have:=l2 c h;omega) k
 unfold F.f150
 rw[e]
 simp only[oE,oS]
 rw[e2]
 exact⟨x,rfl,hx⟩
theorem Sub.wt {y x:Tree}(h:Sub y x):y.wt<=x.wt:=by
 induction h with
 |refl=>exact Nat.le_refl _
 |br x b hb h ih=>have:=x.wt_eq;have:=Zf Branch.wt hb;have:Branch.wt b=b.tree.wt:=rfl;omega
 |els x z hz h ih=>have:=x.wt_eq;have:=Zf Tree.wt hz;omega
theorem Added.binds {x:Tree}{l:List Node}{k:Nat}(h:Added [] x l k)(hx:right x)(hw:x.wt<=1048576):∀n,n∈l->n.binds.length<=67108864:=by
 intro n hn
 obtain⟨j,hj,rfl⟩:=List.getElem_of_mem hn
 obtain⟨y,hy,hr⟩:=h.sub j (by simp) hj
 obtain⟨_,_,e,_⟩:=Rep.ok hr (hy.right hx)
 have h1:=hy.wt
 have h2:=Zh PathBind.wt y.binds
 have h3:=y.wt_eq
 rw[e];omega
theorem ZGd {α:Type}{f:α->Nat}{b:Nat}:∀{l:List α},(∀x,x∈l->f x<=b)->wtL f l<=l.length*(1+b)
 | [],_=>by simp
 |x::r,h=>by
  have h1:=ZGd (l:=r) fun y hy=>h y (List.mem_cons_of_mem _ hy)
  have h2:=h x (by simp)
  rw[ZA0,List.length_cons,Nat.add_mul]
  omega
theorem Added.weight {x:Tree}{l:List Node}{k:Nat}(h:Added [] x l k)(hx:right x):wtL Node.wt l<=l.length*(1+(x.wt+10)):=by
 refine ZGd fun n hn=> ?_
 obtain⟨j,hj,rfl⟩:=List.getElem_of_mem hn
 obtain⟨y,hy,hr⟩:=h.sub j (by simp) hj
 obtain⟨_,e0,e1,e2⟩:=Rep.ok hr (hy.right hx)
 have h1:=hy.wt
 have h3:=y.wt_eq
 have h4:wtL Edge.wt l[j].edges=l[j].edges.length:=ZD6 (fun _=>rfl) _
 have h5:l[j].edges.length<=10:=e0.len
 unfold Node.wt
 rw[e1,e2,h4]
 omega
theorem P.YA0 (code:List Int)(hc:ZA5 code):∃l,F.f170 code=some l/\l.length<=301/\∀n,n∈l->n.wt<=710:=by
 obtain⟨x,e,hx,_,hsl⟩:=P.YBG code hc
 obtain⟨nodes,b,e2,hl,hn⟩:∃l b,F.f169 x=some (l,b)/\l.length<=300/\∀n,n∈l->n.wt<=710:=by
  rcases P.Yw x (by omega)with h|⟨h1,h2,l,k,e1,h3⟩
  ·exact⟨_,_,h,by simp,by simp⟩
  ·refine⟨l,true,e1,(Added.valid h3 h2 h1).2.1,fun n hn=> ?_⟩
   obtain⟨j,hj,rfl⟩:=List.getElem_of_mem hn
   obtain⟨y,hy,hr⟩:=h3.sub j (by simp) hj
   obtain⟨_,e0,e1,e2⟩:=Rep.ok hr (hy.right h2)
   have h1:=hsl y hy
   have h3:=ZFZ y.path
   have h4:wtL Edge.wt l[j].edges=l[j].edges.length:=ZD6 (fun _=>rfl) _
   have h5:l[j].edges.length<=10:=e0.len
   unfold Node.wt
   rw[e1,e2,h4]
   omega
 have key : ∀ r, rok 0 r -> ∃ l, (if nodes.length <= 67108864 then
    if nodes.length=0 then
     some nodes
    else
     (F.f1 r 3)>>=fun v12=>
     if 0<v12.1 then
      some nodes
     else
      (F.f1 v12.2 (nodes.length:Int))>>=fun v16=>
      (F.f1 v16.2 5)>>=fun v18=>
      if v18.1=0 then
       (F.f54 v18.2 [0,1,2,3,(-1)])>>=fun v22=>
       (at? nodes v16.1)>>=fun x=>
       some (nodes.set v16.1.toNat (⟨v22.1,x.clause,x.binds,x.path,x.edges,x.els⟩:Node))
      else
       if v18.1=1 then
        (F.f54 v18.2 [0,(-1),5,(-2)])>>=fun v27=>
        (at? nodes v16.1)>>=fun x29=>
        some (nodes.set v16.1.toNat (⟨x29.op,x29.clause,x29.binds,x29.path,x29.edges,v27.1⟩:Node))
       else
        if v18.1=2 then
         (at? nodes v16.1)>>=fun x33=>
         if 0<x33.edges.length then
          if x33.edges.length<=67108864 then
           (F.f54 v18.2 [0,1,9,(-1)])>>=fun v39=>
           (x33.edges[0]?)>>=fun x41=>
           some (nodes.set v16.1.toNat (⟨x33.op,x33.clause,x33.binds,x33.path,x33.edges.set 0 (⟨x41.ctor,x41.n,x41.m,v39.1⟩:Edge),x33.els⟩:Node))
          else none
         else
          some nodes
        else
         if v18.1=3 then
          if 0<=v16.1/\v16.1.toNat<=nodes.length then
           some (List.take v16.1.toNat nodes)
          else none
         else
          if v18.1=4 then
           (at? nodes v16.1)>>=fun x48=>
           if nodes.length+1<=67108864 then
            some (nodes++[x48])
           else none
          else
           some nodes
   else none)=some l/\l.length<=301/\∀n,n∈l->n.wt<=710:=by
  intro r hr
  have same:∀l:List Node,l=nodes->l.length<=301/\∀n,n∈l->n.wt<=710:=fun l e=>by subst e;exact⟨by omega,hn⟩
  have setOk:∀(i:Nat) (y:Node),y.wt<=710->(nodes.set i y).length<=301/\∀n,n∈nodes.set i y->n.wt<=710:=fun i y hy=>⟨by simp;omega,fun n h=>by
   rcases List.mem_or_eq_of_mem_set h with h|h
   ·exact hn n h
   ·rw[h];exact hy⟩
  rw[if_pos (by omega)]
  split
  ·exact⟨_,rfl,same _ rfl⟩
  obtain⟨v12,r1,e1,h1,_⟩:=P.YI hr (by omega) 3
  rw[e1]
  simp only[oE,oS]
  split
  ·exact⟨_,rfl,same _ rfl⟩
  obtain⟨v16,r2,e2,h2,a1,a2,_⟩:=P.YI h1 (by omega) (nodes.length:Int)
  have a3:=a2 (by omega)
  obtain⟨k,rfl⟩:∃k:Nat,v16=(k:Int):=⟨v16.toNat,by omega⟩
  have hk:k<nodes.length:=by omega
  have hkw:=hn _ (gM hk)
  rw[e2]
  simp only[oS]
  obtain⟨v18,r3,e3,h3,_⟩:=P.YI h2 (by omega) 5
  rw[e3]
  simp only[oS]
  split
  ·obtain⟨v22,r4,e4,h4,_⟩:=P.num h3 (by omega) [0,1,2,3,-1] (by simp)
   rw[e4]
   simp only[oS]
   rw[Zx hk]
   exact⟨_,rfl,setOk _ _ hkw⟩
  split
  ·obtain⟨v22,r4,e4,h4,_⟩:=P.num h3 (by omega) [0,-1,5,-2] (by simp)
   rw[e4]
   simp only[oS]
   rw[Zx hk]
   exact⟨_,rfl,setOk _ _ hkw⟩
  split
  ·rw[Zx hk]
   simp only[oS]
   split
   ·next h0=>
    have h5:nodes[k].edges.length<=67108864:=by
     have:=Zh Edge.wt nodes[k].edges
     unfold Node.wt at hkw
     omega
    rw[if_pos h5]
    obtain⟨v22,r4,e4,h4,_⟩:=P.num h3 (by omega) [0,1,9,-1] (by simp)
    rw[e4]
    simp only[oS]
    rw[gQ h0]
    refine⟨_,rfl,setOk _ _ ?_⟩
    have z:∀l:List Edge,wtL Edge.wt l=l.length:=fun l=>ZD6 (fun _=>rfl) l
    unfold Node.wt at hkw ⊢
    rw[z]at hkw ⊢
    simp only[List.length_set]
    exact hkw
   ·exact⟨_,rfl,same _ rfl⟩
  split
  ·rw[if_pos (by omega)]
   exact⟨_,rfl,by simp;omega,fun n h=>hn n (List.mem_of_mem_take h)⟩
  split
  ·rw[Zx hk]
   simp only[oS]
   rw[if_pos (by omega)]
   refine⟨_,rfl,by simp;omega,fun n h=> ?_⟩
   rcases List.mem_append.1 h with h|h
   ·exact hn n h
   ·rw[List.mem_singleton.1 h];exact hkw
  ·exact⟨_,rfl,same _ rfl⟩
 unfold F.f170
 by_cases hcl:2000<code.length
 ·rw[if_pos hcl,if_pos (by omega),e]
  show ∃l,((F.f169 x)>>=_)=some l/\_
  rw[e2]
  exact key _ (ZEE hc)
 ·rw[if_neg hcl,e]
  show ∃l,((F.f169 x)>>=_)=some l/\_
  rw[e2]
  exact key _ (ZCv hc (by omega))
theorem Rep.all (list:List Node)(hv:∀j (h:j<list.length),nodeOk j list[j]):∀(N k:Nat),k<N->k<list.length->∃x,Rep list k x/\right x:=by
 intro N
 induction N with
 |zero=>intro k h;omega
 |succ N ih=>
  intro k hN hk
  have hn:=hv k hk
  obtain⟨f,hf⟩:∃f:Nat->Tree,∀j,j<k->Rep list j (f j)/\right (f j):=Classical.axiomOfChoice (r:=fun j y=>j<k->Rep list j y/\right y) fun j=>by
   by_cases hj:j<k
   ·obtain⟨y,hy⟩:=ih j (by omega) (by omega);exact⟨y,fun _=>hy⟩
   ·exact⟨⟨0,0,[],[],[],[]⟩,fun h=>absurd h hj⟩
  let n:=list[k]
  let x:Tree:=⟨n.op,n.clause,n.binds,n.path,n.edges.map fun e=>⟨e.ctor,e.n,e.m,f e.to.toNat⟩,if n.els<0 then[]else[f n.els.toNat]⟩
  have hed:∀i (h:i<n.edges.length),0<=n.edges[i].to/\n.edges[i].to<k:=hn.edges
  have hels:x.els=if n.els<0 then[]else[f n.els.toNat]:=rfl
  have hbr:x.branches=n.edges.map fun e=>⟨e.ctor,e.n,e.m,f e.to.toNat⟩:=rfl
  refine⟨x,.mk k x n.edges n.els (fun i=>(n.edges[i]?.map fun e=>e.to.toNat).getD 0) n.els.toNat ?_ ?_ ?_ ?_ ?_ ?_ ?_ ?_ ?_,?_⟩
  ·rw[gQ hk];rfl
  ·rw[hbr,List.length_map]
  ·intro i h1 h2
   have:=hed i h1
   simp only[hbr,List.getElem_map,gQ h1,Option.map_some,Option.getD_some]
   rw[Int.toNat_of_nonneg this.1]
  ·intro i h
   rw[hbr,List.length_map]at h
   have:=hed i h
   simp only[gQ h,Option.map_some,Option.getD_some]
   omega
  ·intro i h
   have h':=h
   rw[hbr,List.length_map]at h'
   have:=hed i h'
   simp only[hbr,List.getElem_map,gQ h',Option.map_some,Option.getD_some]
   exact(hf _ (by omega)).1
  ·intro h
   rw[hels]at h
   split at h
   ·have: -1<=n.els:=hn.els0;omega
   ·cases h
  ·rw[hels];split<;>simp
  ·intro y hy
   rw[hels]at hy
   have:n.els<(k:Int):=hn.els1
   split at hy
   ·cases hy
   ·omega
  ·intro y hy
   rw[hels]at hy
   have:n.els<(k:Int):=hn.els1
   split at hy
   ·cases hy
   ·rw[List.mem_singleton.1 hy];exact(hf _ (by omega)).1
  ·refine(ZAL x).2 ⟨⟨hn.op0,hn.op2,?_,?_⟩,fun b hb=> ?_,fun y hy=> ?_⟩
   ·rw[hels];split<;>simp
   ·rw[hbr,List.length_map];exact hn.len
   ·rw[hbr]at hb
    obtain⟨e,he,rfl⟩:=List.mem_map.1 hb
    obtain⟨i,hi,rfl⟩:=List.getElem_of_mem he
    have:=hed i hi
    exact(hf _ (by omega)).2
   ·rw[hels]at hy
    have:n.els<(k:Int):=hn.els1
    split at hy
    ·cases hy
    ·rw[List.mem_singleton.1 hy];exact(hf _ (by omega)).2
theorem Rep.sub {list:List Node}{y x:Tree}(h:Sub y x):∀{k:Nat},Rep list k x->∃j,j<=k/\Rep list j y:=by
 induction h with
 |refl=>intro k hr;exact⟨k,Nat.le_refl _,hr⟩
 |br x b hb h ih=>
  intro k hr
  cases hr with
  |mk _ _ es e js j0 _ _ _ hj hr'=>
   obtain⟨i,hi,rfl⟩:=List.getElem_of_mem hb
   obtain⟨j,a,b⟩:=ih (hr' i hi)
   have:=hj i hi
   exact⟨j,by omega,b⟩
 |els x z hz h ih=>
  intro k hr
  cases hr with
  |mk _ _ es e js j0 _ _ _ _ _ _ _ h2 h3=>
   obtain⟨j,a,b⟩:=ih (h3 z hz)
   have:=(h2 z hz).2
   exact⟨j,by omega,b⟩
theorem Rep.weight {list:List Node}(hw:∀n,n∈list->n.wt<=710){k:Nat}{x:Tree}(h:Rep list k x):x.wt+1<=711*x.nodes:=by
 induction h with
 |mk k x es e js j0 h hl hb hj hr h0 h1 h2 h3 ihr ih3=>
  have hn:=hw _ (List.mem_of_getElem? h)
  have e1:=x.wt_eq
  have e2:=x.nodes_eq
  unfold Node.wt Zb at hn
  have a1:∀l:List Branch,(∀b,b∈l->b.tree.wt+1<=711*b.tree.nodes)->wtL Branch.wt l<=711*(l.map Branch.nodes).sum:=by
   intro l
   induction l with
   |nil=>intro _;simp
   |cons a r ih=>
    intro hq
    have q1:=hq a (by simp)
    have q2:=ih fun b hb=>hq b (List.mem_cons_of_mem _ hb)
    have q3:Branch.wt a=a.tree.wt:=rfl
    have q4:Branch.nodes a=a.tree.nodes:=rfl
    rw[ZA0,List.map_cons,List.sum_cons]
    omega
  have a2:∀l:List Tree,(∀b,b∈l->b.wt+1<=711*b.nodes)->wtL Tree.wt l<=711*(l.map Tree.nodes).sum:=by
   intro l
   induction l with
   |nil=>intro _;simp
   |cons a r ih=>
    intro hq
    have q1:=hq a (by simp)
    have q2:=ih fun b hb=>hq b (List.mem_cons_of_mem _ hb)
    rw[ZA0,List.map_cons,List.sum_cons]
    omega
  have b1:=a1 x.branches fun b hb=>by
   obtain⟨i,hi,rfl⟩:=List.getElem_of_mem hb
   exact ihr i hi
  have b2:=a2 x.els fun y hy=>ih3 y hy
  simp only at hn
  omega
theorem ZEN :∀(n:Nat) (l:List Nat),l.Nodup->(∀x,x∈l->x<n)->l.length<=n
 |0,l,_,h=>by
  cases l with
  |nil=>simp
  |cons a r=>have:=h a (by simp);omega
 |n+1,l,hd,h=>by
  by_cases hm:n∈l
  ·have h1:=ZEN n (l.erase n) (hd.erase n) fun x hx=>by
    have h2:=h x (List.mem_of_mem_erase hx)
    have h3:x≠n:=fun e=>by subst e;exact(List.Nodup.mem_erase_iff hd).1 hx|>.1 rfl
    omega
   have h4:=List.length_erase_of_mem hm
   omega
  ·have:=ZEN n l hd fun x hx=>by
    have h2:=h x hx
    have h3:x≠n:=fun e=>hm (e▸hx)
    omega
   omega
theorem Added.few {x:Tree}{l:List Node}{k:Nat}(h:Added [] x l k){list:List Node}{K:Nat}(hr:Rep list K x):l.length<=list.length:=by
 have hex:∀j,∃m,j<l.length->m<list.length/\∃y,Rep l j y/\Rep list m y:=fun j=>by
  by_cases hj:j<l.length
  ·obtain⟨y,hy,hr1⟩:=h.sub j (by simp) hj
   obtain⟨m,_,hm⟩:=Rep.sub hy hr
   exact⟨m,fun _=>⟨hm.lt,y,hr1,hm⟩⟩
  ·exact⟨0,fun q=>absurd q hj⟩
 obtain⟨g,hg⟩:=Classical.axiomOfChoice hex
 have hnd:((List.range l.length).map g).Nodup:=by
  rw[List.nodup_iff_pairwise_ne,List.pairwise_map]
  refine(List.nodup_range (n:=l.length)).imp_of_mem fun{a b} ha hb hab e=>hab ?_
  obtain⟨_,y,q1,q2⟩:=hg a (List.mem_range.1 ha)
  obtain⟨_,z,r1,r2⟩:=hg b (List.mem_range.1 hb)
  rw[e]at q2
  have:=Rep.fn q2 r2
  subst this
  exact Rep.inj h.inv.1 q1 r1
 have:=ZEN list.length _ hnd fun x hx=>by
  obtain⟨a,ha,rfl⟩:=List.mem_map.1 hx
  exact(hg a (List.mem_range.1 ha)).1
 simpa using this
theorem P.YAA {list:List Node}(hl:∀n,n∈list->n.wt<=710){k:Nat}{x:Tree}(h:Rep list k x)(hr:right x):∀left:Nat,left<=300->
  (x.nodes<=left->F.f191 list (k:Int) (left:Int)=some (x,((left-x.nodes:Nat):Int)))/\(left<x.nodes->∃y l',F.f191 list (k:Int) (left:Int)=some (y,l')/\l'<0):=by
 induction h with
 |mk k x es e js j0 h hlen hb hj hr' h0 h1 h2 h3 ihr ih3=>
  intro left hleft
  obtain⟨⟨_,_,r3,r4⟩,rb,re⟩:=(ZAL x).1 hr
  have hnw:=hl _ (List.mem_of_getElem? h)
  unfold Node.wt Zb at hnw
  simp only at hnw
  have hbl:=Zh PathBind.wt x.binds
  have hpl:=Zh (fun _:Int=>0) x.path
  have hbp:∀b,b∈x.binds->b.path.length<=67108864:=fun b hb=>by
   have q1:=Zf PathBind.wt hb
   have q2:b.path.length<=PathBind.wt b:=by unfold PathBind.wt;exact Zh (fun _:Int=>0) b.path
   omega
  have hw1:i64.wrap ((left:Int) -1)=(left:Int) -1:=ZG (by omega) (by omega)
  have hn:=x.nodes_eq
  rw[F.f191.eq_def,hw1]
  by_cases hz:left=0
  ·subst hz
   rw[if_pos (by omega)]
   exact⟨fun q=>by omega,fun _=>⟨_,_,rfl,by omega⟩⟩
  rw[if_neg (by omega)]
  have hat:at? list (k:Int)=some (Zb x es e):=by
   rw[ZG4];exact h
  rw[hat]
  simp only[oE,oS]
  rw[show(Zb x es e).binds=x.binds from rfl,P.YN _ (by omega) hbp]
  simp only[oS]
  rw[show(Zb x es e).path=x.path from rfl,if_pos (by omega)]
  have loop:∀(m i:Nat) (out:List Branch) (K:Nat),x.branches.length-i=m->out.length<=10->i<=x.branches.length->out.length=i->out=x.branches.take i->K<=300->
    (((x.branches.drop i).map Branch.nodes).sum<=K->F.f192 list (Zb x es e) x.binds out i (K:Int)=some (x.branches,((K- ((x.branches.drop i).map Branch.nodes).sum:Nat):Int)))/\
    (K<((x.branches.drop i).map Branch.nodes).sum->∃o l',F.f192 list (Zb x es e) x.binds out i (K:Int)=some (o,l')/\l'<0):=by
   intro m
   induction m with
   |zero=>
    intro i out K hm ho hi hoi hout hK
    have hil:i=x.branches.length:=by omega
    rw[List.drop_eq_nil_of_le (by omega)]
    refine⟨fun _=> ?_,fun q=>by simp at q⟩
    rw[F.f192.eq_def,if_neg (by show ¬i<es.length;omega),hout,hil,List.take_length]
    simp
   |succ m ihm=>
    intro i out K hm ho hi hoi hout hK
    have hib:i<x.branches.length:=by omega
    have hie:i<es.length:=by omega
    have hbm:=gM hib
    rw[List.drop_eq_getElem_cons hib,List.map_cons,List.sum_cons]
    have hbn:Branch.nodes x.branches[i]=x.branches[i].tree.nodes:=rfl
    have f1:x.branches.length- (i+1)=m:=by omega
    have f3:i+1<=10:=by omega
    have f4:∀n:Nat,K-n<=300:=fun n=>by omega
    have f5:i+1<=x.branches.length:=by omega
    have f6:out.length+1<=67108864:=by omega
    have f7:0<=(K:Int):=by omega
    obtain⟨q1,q2⟩:=ihr i hib (rb _ hbm) K hK
    have hes:=hb i hie hib
    have step:F.f192 list (Zb x es e) x.binds out i (K:Int)=(F.f191 list (js i:Int) (K:Int))>>=fun v14=>if out.length+1<=67108864 then F.f192 list (Zb x es e) x.binds (out++[(⟨x.branches[i].ctor,x.branches[i].n,x.branches[i].m,v14.1⟩:Branch)]) (i+1) v14.2 else none:=by
     rw[F.f192.eq_def,if_pos (show i<(Zb x es e).edges.length from hie),if_pos f7,show(Zb x es e).edges=es from rfl,gQ hie,hes]
     rfl
    rw[step]
    by_cases hle:x.branches[i].tree.nodes<=K
    ·rw[q1 hle]
     clear q1 q2
     simp only[oE,oS]
     rw[if_pos f6]
     have eo:out++[(⟨x.branches[i].ctor,x.branches[i].n,x.branches[i].m,x.branches[i].tree⟩:Branch)]=x.branches.take (i+1):=by
      rw[hout,List.take_succ_eq_append_getElem hib]
     have f8:(out++[(⟨x.branches[i].ctor,x.branches[i].n,x.branches[i].m,x.branches[i].tree⟩:Branch)]).length=i+1:=by rw[List.length_append,List.length_singleton,hoi]
     obtain⟨p1,p2⟩:=ihm (i+1) _ (K-x.branches[i].tree.nodes) f1 (by rw[f8];exact f3) f5 f8 eo (f4 _)
     clear ihm
     rw[hbn]
     refine⟨fun q=> ?_,fun q=>p2 (by clear p1 p2;omega)⟩
     rw[p1 (by clear p1 p2;omega)]
     clear p1 p2
     congr 3
     omega
    ·obtain⟨y,l',e1,e2⟩:=q2 (by clear q1 q2;omega)
     clear q1 q2
     rw[e1]
     simp only[oE,oS]
     rw[if_pos f6]
     refine⟨fun q=>by rw[hbn]at q;omega,fun _=> ?_⟩
     rw[F.f192.eq_def]
     split
     ·rw[if_neg (by omega)];exact⟨_,_,rfl,e2⟩
     ·exact⟨_,_,rfl,e2⟩
  obtain⟨p1,p2⟩:=loop _ 0 [] (left-1) rfl (by simp) (by omega) rfl (by simp) (by omega)
  rw[List.drop_zero]at p1 p2
  have hL:(left:Int) -1=((left-1:Nat):Int):=by omega
  rw[hL]
  by_cases hs:(x.branches.map Branch.nodes).sum<=left-1
  ·rw[p1 hs]
   simp only[oS]
   cases hels:x.els with
   |nil=>
    rw[hels]at hn
    simp only[List.map_nil,List.sum_nil]at hn
    rw[if_neg (by show ¬0<=e;rw[h0 hels];omega)]
    refine⟨fun _=> ?_,fun q=>by omega⟩
    have et:(⟨x.op,x.clause,x.binds,x.path,x.branches,[]⟩:Tree)=x:=by rw[←hels];cases x;rfl
    show some ((⟨x.op,x.clause,x.binds,x.path,x.branches,[]⟩:Tree),_)=_
    rw[et]
    congr 3
    omega
   |cons y r=>
    have hr1:r=[]:=by rw[hels]at r3;simp at r3;exact r3
    subst hr1
    have hym:y∈x.els:=by rw[hels];simp
    rw[hels]at hn
    simp only[List.map_cons,List.map_nil,List.sum_cons,List.sum_nil]at hn
    have he:=(h2 y hym).1
    rw[if_pos (by show 0<=e;omega),if_pos (Int.natCast_nonneg _)]
    obtain⟨q1,q2⟩:=ih3 y hym (re y hym) (left-1- (x.branches.map Branch.nodes).sum) (by omega)
    have et:(⟨x.op,x.clause,x.binds,x.path,x.branches,[y]⟩:Tree)=x:=by rw[←hels];cases x;rfl
    have ee:(Zb x es e).els=(j0:Int):=he
    rw[ee]
    refine⟨fun q=> ?_,fun q=> ?_⟩
    ·rw[q1 (by omega)]
     show some ((⟨x.op,x.clause,x.binds,x.path,x.branches,[y]⟩:Tree),_)=_
     rw[et]
     congr 3
     omega
    ·obtain⟨z,l',e1,e2⟩:=q2 (by omega)
     rw[e1]
     exact⟨_,_,rfl,e2⟩
  ·obtain⟨o,l',e1,e2⟩:=p2 (by omega)
   rw[e1]
   simp only[oS]
   refine⟨fun q=>by omega,fun _=> ?_⟩
   split
   ·rw[if_neg (by omega)];exact⟨_,_,rfl,e2⟩
   ·exact⟨_,_,rfl,e2⟩
end Go.Vl
