/- A part of the proof. -/
import Derived.Test.YtanfmnlkemmkpaaGreatBarePatternB1
set_option linter.all false
set_option maxRecDepth 100000
namespace Go.Vl
open Go Go.RowKit
open Go.IntKind (i64)
theorem P.YT {p:Pattern}{L:List Int->Int->List Pattern->Nat->Int->Option ((List Int)×Int×(List Pattern)×Int)}
  (hL:∀z z12 out i next,L z z12 out i next=if i<p.kids.length then
   (p.kids[i]?)>>=fun x=>
   (F.f61 (⟨z,z12⟩:ZB) x next)>>=fun v17=>
   if out.length+1<=67108864 then
    L v17.2.2.f0 v17.2.2.f1 (out++[v17.1]) (i+1) v17.2.1
   else none
  else
   some (z,z12,out,next))
  (ih:∀k,k∈p.kids->∀(n:Int) (K:Nat) (r:ZB),0<=n->n<=7->rok K r->K+3*(1+k.wt)<=1099511627776->k.wt<=1048576->
   ∃p' n' r',F.f61 r k n=some (p',n',r')/\rok (K+3*(1+k.wt)) r'/\0<=n'/\n'<=7/\p'.wt+1<=2*(1+k.wt)):
  ∀(k K:Nat) (z:List Int) (z12:Int) (out:List Pattern) (next:Int),k<=p.kids.length->rok K ⟨z,z12⟩->K+3*wtL Pattern.wt (p.kids.drop (p.kids.length-k))<=1099511627776->wtL Pattern.wt p.kids<=1048576->out.length+k<=67108864->0<=next->next<=7->
   ∃z' z12' out' next',L z z12 out (p.kids.length-k) next=some (z',z12',out',next')/\rok (K+3*wtL Pattern.wt (p.kids.drop (p.kids.length-k))) ⟨z',z12'⟩/\0<=next'/\next'<=7/\
    wtL Pattern.wt out'<=wtL Pattern.wt out+2*wtL Pattern.wt (p.kids.drop (p.kids.length-k))
 |0,K,z,z12,out,next,hk,hr,hK,hb,ho,n0,n7=>by
  rw[hL,if_neg (by omega)]
  exact⟨z,z12,out,next,rfl,hr.mono (by omega),n0,n7,by omega⟩
 |k+1,K,z,z12,out,next,hk,hr,hK,hb,ho,n0,n7=>by
  have hi:p.kids.length- (k+1)<p.kids.length:=by omega
  have ei:p.kids.length- (k+1)+1=p.kids.length-k:=by omega
  have hd:p.kids.drop (p.kids.length- (k+1))=p.kids[p.kids.length- (k+1)]::p.kids.drop (p.kids.length-k):=by rw[List.drop_eq_getElem_cons hi,ei]
  have hm:=ZAM Pattern.wt (gM hi)
  rw[hd,ZC4]at hK ⊢
  obtain⟨p',n',r1,e1,h1,q1,q2,q3⟩:=ih _ (gM hi) next K ⟨z,z12⟩ n0 n7 hr (by omega) (by omega)
  obtain⟨z',z12',out',next',f1,f2,f3,f4,f5⟩:=P.YT hL ih k _ r1.f0 r1.f1 (out++[p']) n' (by omega) h1 (by omega) hb (by simp;omega) q1 q2
  rw[hL,if_pos hi,gQ hi]
  simp only[oE,oS]
  rw[e1]
  simp only[oS]
  rw[if_pos (by omega),ei]
  refine⟨z',z12',out',next',f1,f2.mono (by omega),f3,f4,?_⟩
  have:wtL Pattern.wt (out++[p'])=wtL Pattern.wt out+(1+p'.wt):=by simp[wtL];omega
  omega
theorem P.YAe (p : Pattern) : ∀ (n : Int) (K : Nat) (r : ZB), 0 <= n -> n <= 7 -> rok K r -> K + 3 * (1 + p.wt) <= 1099511627776 -> p.wt <= 1048576 ->
   ∃p' n' r',F.f61 r p n=some (p',n',r')/\rok (K+3*(1+p.wt)) r'/\0<=n'/\n'<=7/\p'.wt+1<=2*(1+p.wt):=by
 induction p using Pattern.ind with
 |_ p ih=>
  intro n K r n0 n7 hr hK hb
  have hwt:=p.wt_eq
  have hlen:=ZDB Pattern.wt p.kids
  have same:p.wt+1<=2*(1+p.wt):=by omega
  rw[F.f61]
  split
  ·exact⟨_,_,_,rfl,hr.mono (by omega),n0,n7,same⟩
  split
  ·exact⟨_,_,_,rfl,hr.mono (by omega),n0,n7,same⟩
  split
  ·exact⟨_,_,_,rfl,hr.mono (by omega),n0,n7,same⟩
  have tail:∀(K':Nat) (z':List Int) (z12':Int) (out':List Pattern) (next':Int),rok K' ⟨z',z12'⟩->K'+1<=K+3*(1+p.wt)->0<=next'->next'<=7->wtL Pattern.wt out'<=2*p.wt->
    ∃p' n' r',(if next'<=5 then
     (F.f1 (⟨z',z12'⟩:ZB) 6).bind fun v24=>
     if v24.1=0 then
      some ((⟨6,0,0,0,next',[(⟨p.op,p.ctor,p.n,p.m,p.var,out'⟩:Pattern)]⟩:Pattern),i64.wrap (next'+1),v24.2)
     else
      some ((⟨p.op,p.ctor,p.n,p.m,p.var,out'⟩:Pattern),next',v24.2)
    else
     some ((⟨p.op,p.ctor,p.n,p.m,p.var,out'⟩:Pattern),next',(⟨z',z12'⟩:ZB)))=some (p',n',r')/\rok (K+3*(1+p.wt)) r'/\0<=n'/\n'<=7/\p'.wt+1<=2*(1+p.wt):=by
   intro K' z' z12' out' next' hr' hK' m0 m7 hout
   have hown:(⟨p.op,p.ctor,p.n,p.m,p.var,out'⟩:Pattern).wt=wtL Pattern.wt out':=by rw[Pattern.wt_eq]
   split
   ·obtain⟨v,r1,e1,h1,a1,b1,_⟩:=P.YJ hr' (by omega) 6
    rw[e1]
    simp only[oS]
    have hwn:i64.wrap (next'+1)=next'+1:=ZE (by omega) (by omega)
    rw[hwn]
    split
    ·refine⟨_,_,_,rfl,h1.mono (by omega),by omega,by omega,?_⟩
     rw[ZNp,hown];omega
    ·refine⟨_,_,_,rfl,h1.mono (by omega),by omega,by omega,?_⟩
     rw[hown];omega
   ·refine⟨_,_,_,rfl,hr'.mono (by omega),m0,m7,?_⟩
    rw[hown];omega
  split
  ·obtain⟨v,r1,e1,h1,a1,b1,_⟩:=P.YJ hr (by omega) 2
   rw[e1]
   simp only[oE,oS]
   have hwn:i64.wrap (n+1)=n+1:=ZE (by omega) (by omega)
   split
   ·rw[hwn]
    exact⟨_,_,_,rfl,h1.mono (by omega),by omega,by omega,by rw[ZBy];omega⟩
   ·obtain⟨z',z12',out',next',f1,f2,f3,f4,f5⟩:=P.YT (p:=p) (L:=F.f62 p n) (fun z z12 out i next=>by rw[F.f62]) ih p.kids.length _ r1.f0 r1.f1 [] n (Nat.le_refl _) h1 (by rw[Nat.sub_self,List.drop_zero];omega) (by omega) (by simp;omega) n0 n7
    rw[Nat.sub_self]at f1;rw[Nat.sub_self,List.drop_zero]at f2 f5
    rw[f1]
    simp only[oS]
    simp at f5
    exact tail _ z' z12' out' next' f2 (by omega) f3 f4 (by omega)
  ·obtain⟨z',z12',out',next',f1,f2,f3,f4,f5⟩:=P.YT (p:=p) (L:=F.f63 p n) (fun z z12 out i next=>by rw[F.f63]) ih p.kids.length _ r.f0 r.f1 [] n (Nat.le_refl _) hr (by rw[Nat.sub_self,List.drop_zero];omega) (by omega) (by simp;omega) n0 n7
   rw[Nat.sub_self]at f1;rw[Nat.sub_self,List.drop_zero]at f2 f5
   rw[f1]
   simp only[oE,oS]
   simp at f5
   exact tail _ z' z12' out' next' f2 (by omega) f3 f4 (by omega)
theorem ZPA (w:List Data)(t:Ty):ZCB w t ⟨1,0,0,0,0,[]⟩:=by
 have hp:ZG w t ⟨1,0,0,0,0,[]⟩=[]:=by simp[ZG]
 refine⟨⟨.inl ⟨rfl,rfl,rfl,rfl,rfl⟩,by rw[hp];rfl,fun i _ h=>by rw[hp]at h;simp at h⟩,⟨fun i _ h=>by rw[hp]at h;simp at h,?_⟩,by rw[ZBy];omega⟩
 rw[if_neg (by simp)]
 simp[ZEz,ZY]
theorem P.YAb {w:List Data}(hw:ZO w){t:Ty}(ht:Zo w t){K:Nat}{r:ZB}(hr:rok K r)(hK:K+2600<=1099511627776):∃p r',F.f86 r w t=some (p,r')/\rok (K+2600) r'/\ZCB w t p:=by
 unfold F.f86
 obtain⟨v,r1,e1,h1,hv⟩:=P.num hr (by omega) [3,2,4,1] (by simp)
 obtain⟨d,rfl,hd⟩:∃d:Nat,v=(d:Int)/\d<=4:=by
  simp at hv
  exact⟨v.toNat,by omega,by omega⟩
 have h8:5^d<=625:=Nat.le_trans (Nat.pow_le_pow_right (n:=5) (by omega) hd) (by decide)
 obtain⟨p,r2,e2,h2,hp⟩:=P.YAX hw d t _ r1 ht (by omega) h1 (by omega)
 obtain⟨q,n,r3,e3,h3,_,_,hq⟩:=P.YAe p 0 _ r2 (by omega) (by omega) h2 (by omega) (by omega)
 rw[e1]
 simp only[oE,oS]
 rw[e2]
 simp only[oS]
 rw[e3]
 simp only[oS]
 rw[P.YAR w hw t ht q (by omega)]
 simp only[oS]
 by_cases h:ZCB w t q
 ·rw[if_pos (ZI h)]
  exact⟨_,_,rfl,h3.mono (by omega),h⟩
 ·rw[if_neg (by rw[ZF h];simp)]
  exact⟨_,_,rfl,h3.mono (by omega),ZPA w t⟩
theorem P.Yk {K:Nat}{r:ZB}(hr:rok K r)(hK:K+2<=1099511627776)(p:Pattern)(hp:p.wt<=1048576):∃p' r',F.f88 r p=some (p',r')/\rok (K+2) r'/\p'.wt<=p.wt+1:=by
 have hwt:=p.wt_eq
 have hlen:=ZDB Pattern.wt p.kids
 have own:∀(a b c d e:Int) (ks:List Pattern),(⟨a,b,c,d,e,ks⟩:Pattern).wt=wtL Pattern.wt ks:=fun a b c d e ks=>by rw[Pattern.wt_eq]
 unfold F.f88
 rw[if_pos (by omega)]
 obtain⟨v,r1,e1,h1,_⟩:=P.YJ hr (by omega) 30
 rw[e1]
 simp only[oE,oS]
 split
 ·obtain⟨v2,r2,e2,h2,_⟩:=P.num h1 (by omega) [0,7,1,2,5] (by simp)
  rw[e2];exact⟨_,_,rfl,h2,by rw[own];omega⟩
 split
 ·obtain⟨v2,r2,e2,h2,_⟩:=P.num h1 (by omega) [6,-1,1] (by simp)
  rw[e2];exact⟨_,_,rfl,h2,by rw[own];omega⟩
 split
 ·obtain⟨v2,r2,e2,h2,_⟩:=P.num h1 (by omega) [9,-1,1] (by simp)
  rw[e2];exact⟨_,_,rfl,h2,by rw[own];omega⟩
 split
 ·rw[if_pos (by omega)]
  refine⟨_,_,rfl,h1.mono (by omega),?_⟩
  rw[own]
  have:wtL Pattern.wt (p.kids++[⟨2,0,0,0,0,[]⟩])=wtL Pattern.wt p.kids+(1+Pattern.wt ⟨2,0,0,0,0,[]⟩):=by simp[wtL];omega
  rw[this,ZBy];omega
 split
 ·split
  ·next h0=>
   rw[gQ h0]
   refine⟨_,_,rfl,h1.mono (by omega),?_⟩
   rw[own]
   have:=ZIu Pattern.wt p.kids 0 h0 ⟨2,0,0,0,0,[]⟩
   rw[ZBy]at this
   omega
  ·exact⟨_,_,rfl,h1.mono (by omega),by omega⟩
 split
 ·obtain⟨v2,r2,e2,h2,_⟩:=P.num h1 (by omega) [10,-1,5] (by simp)
  rw[e2];exact⟨_,_,rfl,h2,by rw[own];omega⟩
 ·exact⟨_,_,rfl,h1.mono (by omega),by omega⟩
theorem P.YB (x:Pattern):F.f106 x x=some true:=by
 induction x using Pattern.ind with
 |_ x ih=>
  rw[F.f106,if_pos rfl,if_pos rfl,if_pos rfl,if_pos rfl,if_pos rfl,F.f107,if_pos rfl]
  have key:∀k,k<=x.kids.length->F.f108 x.kids x.kids (x.kids.length-k)=some (.go ()):=by
   intro k
   induction k with
   |zero=>intro _;rw[F.f108,if_neg (by omega)]
   |succ k ih2=>
    intro hk
    have hi:x.kids.length- (k+1)<x.kids.length:=by omega
    have ei:x.kids.length- (k+1)+1=x.kids.length-k:=by omega
    rw[F.f108,if_pos hi,gQ hi]
    simp only[oE,oS]
    rw[ih _ (gM hi)]
    simp only[oS]
    simp only[if_true]
    rw[ei]
    exact ih2 (by omega)
  have:=key x.kids.length (Nat.le_refl _)
  rw[Nat.sub_self]at this
  rw[this]
  rfl
def Tree.nodes :Tree->Nat
 |⟨_,_,_,_,branches,els⟩=>1+(branches.attach.map fun⟨b,_⟩=>Tree.nodes b.tree).sum+(els.attach.map fun⟨k,_⟩=>Tree.nodes k).sum
termination_by t=>SizeOf.sizeOf t
decreasing_by
 ·rename_i h
  have:=List.sizeOf_lt_of_mem h
  cases b
  simp at this ⊢
  omega
 ·rename_i h
  have:=List.sizeOf_lt_of_mem h
  simp
  omega
def ZI7 :Nat->Tree->Prop
 |0,_=>False
 |n+1,x=>(0<=x.op/\x.op<=2/\x.els.length<=1/\x.branches.length<=10)/\(∀b,b∈x.branches->ZI7 n b.tree)/\∀y,y∈x.els->ZI7 n y
def right (x:Tree):Prop:=ZI7 x.nodes x
theorem flat_nil {f:Ty×Pattern->List VarType}:∀{ts:List Ty} {ks:List Pattern} (n:Nat),(∀i (h1:i<ts.length) (h3:i<ks.length),f (ts[i],ks[i])=[])->((ts.zip ks).take n).flatMap f=[]
 | [],_,n,_=>by simp
 |t::ts,[],n,_=>by simp
 |t::ts,k::ks,0,_=>by simp
 |t::ts,k::ks,n+1,hh=>by
  have h0:=hh 0 (by simp) (by simp)
  have hr:=flat_nil (f:=f) (ts:=ts) (ks:=ks) n fun i h1 h3=>by
   have:=hh (i+1) (by simpa using h1) (by simpa using h3)
   simpa using this
  simp only[List.getElem_cons_zero]at h0
  simp only[List.zip_cons_cons,List.take_succ_cons,List.flatMap_cons,h0,hr,List.append_nil]
theorem P.YAF {K:Nat}{r:ZB}(hr:rok K r)(hK:K+3000<=1099511627776):∃w t p v r',F.f87 r=some (w,t,p,v,r')/\rok (K+3000) r'/\w∈ZAO/\ZO w/\Zo w t/\ZCB w t p/\v.wt<=255:=by
 obtain⟨w,t,v,r1,T,e1,h1,hw,_,hT,a1,a2,a3,_,_,hv,a4⟩:=P.YAY hr (by omega)
 have ht:Zo w t:=by
  refine⟨?_,a3⟩
  rcases a1 with q|⟨q1,q2,q3,q4⟩
  ·exact .inl ⟨q,a4 q⟩
  ·exact .inr ⟨q1,q2,by omega,q4⟩
 obtain⟨p,r2,e2,h2,hp⟩:=P.YAb hT.wok ht h1 (by omega)
 unfold F.f87
 rw[e1]
 simp only[oE,oS]
 rw[e2]
 exact⟨w,t,p,v,r2,rfl,h2.mono (by omega),hw,hT.wok,ht,hp,by omega⟩
theorem P.YA (w:List Data)(hw:ZAE w)(t:Ty)(p:Pattern)(hp:p.wt<=1048576):F.f151 w t p=some (dec (ZA6 w t/\ZCB w t p)):=by
 unfold F.f151
 rw[P.Yn w t hw]
 simp only[oE,oS]
 by_cases h:ZA6 w t
 ·rw[if_pos (ZI h),P.Ym w h.1 t h.2 p hp]
  simp only[oS]
  by_cases h2:ZCB w t p
  ·rw[ZI h2,ZI ⟨h,h2⟩]
  ·rw[ZF h2,ZF fun q=>h2 q.2]
 ·rw[if_neg (by rw[ZF h];decide),ZF fun q=>h q.1]
def ZMF (p:Pattern)(i:Nat):Pattern:=p.kids.getD i ZPN
theorem ZAA {p:Pattern}{i:Nat}(h:i<p.kids.length):ZMF p i=p.kids[i]:=by simp[ZMF,h]
def mtK (f:Pattern->Value->Option (List Bind)):List Pattern->List Value->Option (List Bind)
 | [],_=>some []
 |_::_,[]=>none
 |p::ps,v::vs=>(f p v).bind fun a=>(mtK f ps vs).bind fun b=>some (a++b)
noncomputable def mt :Nat->Pattern->Value->Option (List Bind)
 |0,_,_=>none
 |d+1,p,v=>
  if p.op=1 then some []else if p.op=2 then some [⟨p.var,v⟩]
  else if p.op=3 then(if p.n<=v.n/\v.n<=p.m then some []else none)
  else if p.op=5 then(mt d (ZMF p 0) v).or (mt d (ZMF p 1) v)
  else if p.op=6 then(mt d (ZMF p 0) v).map (fun l=>⟨p.var,v⟩::l)
  else if p.ctor=v.ctor then mtK (mt d) p.kids v.kids else none
theorem ZFN {f g:Pattern->Value->Option (List Bind)}:∀{qs ps:List Pattern} {vs:List Value},qs.length=ps.length->(∀i (h1:i<qs.length) (h2:i<ps.length) (h3:i<vs.length),f qs[i] vs[i]=g ps[i] vs[i])->mtK f qs vs=mtK g ps vs
 | [],[],vs,_,_=>by simp[mtK]
 | [],_::_,_,h,_=>by simp at h
 |_::_,[],_,h,_=>by simp at h
 |q::qs,p::ps,[],_,_=>by simp[mtK]
 |q::qs,p::ps,v::vs,h,hh=>by
  have h0:=hh 0 (by simp) (by simp) (by simp)
  have hr:=ZFN (f:=f) (g:=g) (qs:=qs) (ps:=ps) (vs:=vs) (by simpa using h) fun i a b c=>by
   have:=hh (i+1) (by simpa using a) (by simpa using b) (by simpa using c)
   simpa using this
  simp only[List.getElem_cons_zero]at h0
  rw[mtK,mtK,h0,hr]
theorem ZOV (d:Nat){p:Pattern}(h:p.op=1)(v:Value):mt (d+1) p v=some []:=by rw[mt,if_pos h]
theorem ZJg {w:List Data}:∀{d:Nat} {t:Ty} {p:Pattern} (v:Value),ZV w d t p->mt (d+1) p v=mt d p v
 |0,t,p,v,h=>h.elim
 |d+1,t,p,v,h=>by
  obtain⟨ho,hl,hk⟩:=h
  have kk:∀i (h:i<p.kids.length) (v:Value),mt (d+1) p.kids[i] v=mt d p.kids[i] v:=fun i h v=>ZJg v (hk i (Nat.zero_le _) (by omega) (by omega) h)
  have own:=ho
  unfold ZAk at own
  conv=>lhs;rw[mt]
  conv=>rhs;rw[mt]
  split
  ·rfl
  split
  ·rfl
  split
  ·rfl
  split
  ·next h5=>
   have e5:=Zl ho h5
   have l2:p.kids.length=2:=by rw[hl,e5];rfl
   rw[ZAA (by omega),ZAA (by omega),kk,kk]
  split
  ·next h6=>
   have e6:ZG w t p=[t]:=by unfold ZG;rw[if_neg (by omega),if_neg (by omega),if_pos h6]
   have l1:p.kids.length=1:=by rw[hl,e6];rfl
   rw[ZAA (by omega),kk]
  split
  ·exact ZFN rfl fun i h1 h2 h3=>kk i h1 _
  ·rfl
theorem ZMd {w:List Data}{e:Nat}{t:Ty}{v:Value}(h:pv w false e t v)(ht:t.data≠-1):v.ctor∈ZN w t/\v.kids.length=(ZK w t v.ctor).length/\∀i (h:i<(ZK w t v.ctor).length) (h':i<v.kids.length),∃e',pv w false e' (ZK w t v.ctor)[i] v.kids[i]:=by
 cases e with
 |zero=>exact h.elim
 |succ e=>
  rcases h with h|⟨_,h|h⟩
  ·simp at h
  ·exact absurd h.1 ht
  ·exact⟨h.2.2.1,h.2.2.2.1,fun i h1 h2=>⟨e,h.2.2.2.2 i (Nat.zero_le _) h1 h1 h2⟩⟩
theorem ZHN {f:Ty×Pattern->List VarType}{g:Pattern->Value->Option (List Bind)}:∀{ts:List Ty} {ps:List Pattern} {vs:List Value} {l:List Bind},ts.length=ps.length->
  (∀i (h1:i<ts.length) (h2:i<ps.length) (h3:i<vs.length) (l:List Bind),g ps[i] vs[i]=some l->(∀x,x∈l->∃y,y∈f (ts[i],ps[i])/\y.var=x.var)/\(l.map Bind.var).Nodup)->
  ZEz ((ts.zip ps).flatMap f)->mtK g ps vs=some l->(∀x,x∈l->∃y,y∈(ts.zip ps).flatMap f/\y.var=x.var)/\(l.map Bind.var).Nodup
 | [],[],vs,l,_,_,_,h=>by simp[mtK]at h;subst h;simp
 | [],_::_,_,_,h,_,_,_=>by simp at h
 |_::_,[],_,_,h,_,_,_=>by simp at h
 |t::ts,p::ps,[],l,_,_,_,h=>by simp[mtK]at h
 |t::ts,p::ps,v::vs,l,hl,hh,hn,h=>by
  rw[List.zip_cons_cons,List.flatMap_cons]at hn ⊢
  unfold ZEz at hn
  rw[List.map_append,List.nodup_append]at hn
  obtain⟨n1,n2,n3⟩:=hn
  rw[mtK]at h
  cases ha:g p v with
  |none=>rw[ha]at h;cases h
  |some a=>
   cases hb:mtK g ps vs with
   |none=>rw[ha,hb]at h;cases h
   |some b=>
    rw[ha,hb]at h
    obtain rfl:a++b=l:=by simpa using h
    have h0:=hh 0 (by simp) (by simp) (by simp) a ha
    have hr:=ZHN (f:=f) (g:=g) (ts:=ts) (ps:=ps) (vs:=vs) (l:=b) (by simpa using hl) (fun i h1 h2 h3 l e=>by
     have:=hh (i+1) (by simpa using h1) (by simpa using h2) (by simpa using h3) l (by simpa using e)
     simpa using this) n2 hb
    simp only[List.getElem_cons_zero]at h0
    refine⟨fun x hx=> ?_,?_⟩
    ·rcases List.mem_append.1 hx with hx|hx
     ·obtain⟨y,hy,e⟩:=h0.1 x hx;exact⟨y,List.mem_append.2 (.inl hy),e⟩
     ·obtain⟨y,hy,e⟩:=hr.1 x hx;exact⟨y,List.mem_append.2 (.inr hy),e⟩
    ·rw[List.map_append,List.nodup_append]
     refine⟨h0.2,hr.2,fun i hi j hj e=> ?_⟩
     obtain⟨x,hx,rfl⟩:=List.mem_map.1 hi
     obtain⟨z,hz,rfl⟩:=List.mem_map.1 hj
     obtain⟨y,hy,e1⟩:=h0.1 x hx
     obtain⟨y',hy',e2⟩:=hr.1 z hz
     exact n3 y.var (List.mem_map_of_mem hy) y'.var (List.mem_map_of_mem hy') (by rw[e1,e2,e])
theorem ZDU {w:List Data}:∀{d:Nat} {t:Ty} {p:Pattern} {v:Value} {l:List Bind},ZV w d t p->ZEA w d t p->mt d p v=some l->(∀x,x∈l->∃y,y∈ZY w d t p/\y.var=x.var)/\(l.map Bind.var).Nodup
 |0,t,p,v,l,hs,_,_=>hs.elim
 |d+1,t,p,v,l,hs,hlin,h=>by
  have hs':=hs
  obtain⟨ho,hl,hk⟩:=hs
  obtain⟨l1,l2⟩:=hlin
  have own:=ho
  unfold ZAk at own
  rw[mt]at h
  by_cases h1:p.op=1
  ·rw[if_pos h1]at h;cases h;simp
  rw[if_neg h1]at h
  by_cases h2:p.op=2
  ·rw[if_pos h2]at h;cases h
   refine⟨fun x hx=>⟨⟨p.var,t⟩,?_,by rw[List.mem_singleton.1 hx]⟩,by simp⟩
   rw[ZY,if_pos (.inl h2)];simp
  rw[if_neg h2]at h
  by_cases h3:p.op=3
  ·rw[if_pos h3]at h
   split at h
   ·cases h;simp
   ·cases h
  rw[if_neg h3]at h
  by_cases h5:p.op=5
  ·rw[if_pos h5]at h
   rw[if_pos h5]at l2
   have e5:=Zl ho h5
   have hl2:p.kids.length=2:=by rw[hl,e5];rfl
   have t0:(ZG w t p)[0]'(by rw[e5];simp)=t:=by simp[e5]
   have t1:(ZG w t p)[1]'(by rw[e5];simp)=t:=by simp[e5]
   have s0:=hk 0 (Nat.zero_le _) (by rw[e5];simp) (by rw[e5];simp) (by omega)
   have s1:=hk 1 (Nat.zero_le _) (by rw[e5];simp) (by rw[e5];simp) (by omega)
   have n0:=l1 0 (Nat.zero_le _) (by rw[e5];simp) (by rw[e5];simp) (by omega)
   have n1:=l1 1 (Nat.zero_le _) (by rw[e5];simp) (by rw[e5];simp) (by omega)
   rw[t0]at s0 n0
   rw[t1]at s1 n1
   rw[ZAA (by omega),ZAA (by omega)]at h
   rw[ZC6 ho h5 (by omega)]
   cases h0:mt d (p.kids[0]'(by omega)) v with
   |some a=>
    rw[h0]at h;obtain rfl:a=l:=by simpa using h
    exact ZDU s0 n0 h0
   |none=>
    rw[h0]at h
    obtain⟨g1,g2⟩:=ZDU s1 n1 (show mt d (p.kids[1]'(by omega)) v=some l by simpa using h)
    exact⟨fun x hx=>ZHv (ZC7 s0 n0) (l2 (by omega) (by omega)) (g1 x hx),g2⟩
  rw[if_neg h5]at h l2
  by_cases h6:p.op=6
  ·rw[if_pos h6]at h
   have e6:ZG w t p=[t]:=by unfold ZG;rw[if_neg (by omega),if_neg h5,if_pos h6]
   have hl1:p.kids.length=1:=by rw[hl,e6];rfl
   have t0:(ZG w t p)[0]'(by rw[e6];simp)=t:=by simp[e6]
   have s0:=hk 0 (Nat.zero_le _) (by rw[e6];simp) (by rw[e6];simp) (by omega)
   have n0:=l1 0 (Nat.zero_le _) (by rw[e6];simp) (by rw[e6];simp) (by omega)
   rw[t0]at s0 n0
   have hpv:ZY w (d+1) t p=⟨p.var,t⟩::ZY w d t (p.kids[0]'(by omega)):=by
    have e9:((([t]:List Ty).zip [p.kids[0]'(by omega)]).take ([p.kids[0]'(by omega)]:List Pattern).length).flatMap (fun x=>ZY w d x.1 x.2)=ZY w d t (p.kids[0]'(by omega)):=by simp
    rw[←ZK6 hl1]at e9
    rw[ZY,if_pos (.inr h6),if_neg h5,e6,e9];rfl
   rw[ZAA (by omega)]at h
   rw[hpv]at l2 ⊢
   unfold ZEz at l2
   rw[List.map_cons,List.nodup_cons]at l2
   cases h0:mt d (p.kids[0]'(by omega)) v with
   |none=>rw[h0]at h;cases h
   |some a=>
    rw[h0]at h
    obtain rfl:⟨p.var,v⟩::a=l:=by simpa using h
    obtain⟨g1,g2⟩:=ZDU s0 n0 h0
    refine⟨fun x hx=> ?_,?_⟩
    ·rcases List.mem_cons.1 hx with rfl|hx
     ·exact⟨_,List.mem_cons_self ..,rfl⟩
     ·obtain⟨y,hy,e⟩:=g1 x hx;exact⟨y,List.mem_cons_of_mem _ hy,e⟩
    ·rw[List.map_cons,List.nodup_cons]
     refine⟨fun hm=>l2.1 ?_,g2⟩
     obtain⟨x,hx,e⟩:=List.mem_map.1 hm
     obtain⟨y,hy,e2⟩:=g1 x hx
     exact List.mem_map.2 ⟨y,hy,by rw[e2,e]⟩
  rw[if_neg h6]at h
  have h4:p.op=4:=by omega
  have hpv:ZY w (d+1) t p=((ZG w t p).zip p.kids).flatMap fun x=>ZY w d x.1 x.2:=by
   rw[ZY,if_neg (by omega),if_neg h5,List.take_of_length_le (by simp;omega)];rfl
  split at h
  ·rw[hpv]at l2 ⊢
   exact ZHN hl.symm (fun i h1 h2 h3 l e=>ZDU (hk i (Nat.zero_le _) h1 h1 h2) (l1 i (Nat.zero_le _) h1 h1 h2) e) l2 h
  ·cases h
theorem P.Yt (v:Value)(hv:v.wt<=67108864):F.f159 v=some v:=by
 induction v using Value.ind with
 |_ v ih=>
  have hw:=v.wt_eq
  rw[F.f159,ZBH (a:=v.kids) (g:=id) (f:=F.f159) (L:=F.f160 v) (fun out i=>by rw[F.f160]) (fun x hx=>ih x hx (by have:=ZAM Value.wt hx;omega)) _ 0 [] rfl (by have:=ZDB Value.wt v.kids;simp;omega)]
  simp
  cases v;rfl
theorem ZME {g:Pattern->Value->Option (List Bind)}{W:Nat}:∀{ps:List Pattern} {vs:List Value} {l:List Bind},(∀i (h2:i<ps.length) (h3:i<vs.length) (l:List Bind),g ps[i] vs[i]=some l->∀x,x∈l->x.value.wt<=W)->mtK g ps vs=some l->∀x,x∈l->x.value.wt<=W
 | [],vs,l,_,h=>by simp[mtK]at h;subst h;simp
 |p::ps,[],l,_,h=>by simp[mtK]at h
 |p::ps,v::vs,l,hh,h=>by
  rw[mtK]at h
  cases ha:g p v with
  |none=>rw[ha]at h;cases h
  |some a=>
   cases hb:mtK g ps vs with
   |none=>rw[ha,hb]at h;cases h
   |some b=>
    rw[ha,hb]at h
    obtain rfl:a++b=l:=by simpa using h
    have h0:=hh 0 (by simp) (by simp) a ha
    have hr:=ZME (g:=g) (ps:=ps) (vs:=vs) (l:=b) (fun i h2 h3 l e=>by
     have:=hh (i+1) (by simpa using h2) (by simpa using h3) l (by simpa using e)
     exact this) hb
    intro x hx
    rcases List.mem_append.1 hx with hx|hx
    ·exact h0 x hx
    ·exact hr x hx
theorem ZJf :∀(d:Nat) {p:Pattern} {v:Value} {l:List Bind},mt d p v=some l->∀x,x∈l->x.value.wt<=v.wt
 |0,p,v,l,h=>by cases h
 |d+1,p,v,l,h=>by
  rw[mt]at h
  split at h
  ·cases h;simp
  split at h
  ·cases h;intro x hx;rw[List.mem_singleton.1 hx];exact Nat.le_refl _
  split at h
  ·split at h
   ·cases h;simp
   ·cases h
  split at h
  ·cases h0:mt d (ZMF p 0) v with
   |some a=>
    rw[h0]at h;obtain rfl:a=l:=by simpa using h
    exact ZJf d h0
   |none=>rw[h0]at h;exact ZJf d (show mt d (ZMF p 1) v=some l by simpa using h)
  split at h
  ·cases h0:mt d (ZMF p 0) v with
   |none=>rw[h0]at h;cases h
   |some a=>
    rw[h0]at h
    obtain rfl:⟨p.var,v⟩::a=l:=by simpa using h
    intro x hx
    rcases List.mem_cons.1 hx with rfl|hx
    ·exact Nat.le_refl _
    ·exact ZJf d h0 x hx
  split at h
  ·exact ZME (fun i h2 h3 l e x hx=>by
    have:=ZJf d e x hx
    have:=ZOX (gM h3)
    omega) h
  ·cases h
theorem P.YF {w:List Data}:∀(d:Nat) (t:Ty) (p:Pattern) (e:Nat) (v:Value),ZV w d t p->pv w false e t v->p.wt<=1048576->∃l b,F.f156 p v=some (l,b)/\l.length<=1+p.wt/\(b=true->mt d p v=some l)/\(b=false->mt d p v=none)
 |0,t,p,e,v,hs,_,_=>hs.elim
 |d+1,t,p,e,v,hs,hv,hp=>by
  obtain⟨ho,hl,hk⟩:=hs
  have own:=ho
  unfold ZAk at own
  have hwt:=p.wt_eq
  have hsum:=ZET p
  rw[F.f156]
  by_cases h1:p.op=1
  ·rw[if_pos h1,mt,if_pos h1];exact⟨_,_,rfl,by simp,fun _=>rfl,fun h=>by cases h⟩
  rw[if_neg h1,mt,if_neg h1]
  by_cases h2:p.op=2
  ·rw[if_pos h2,if_pos h2];exact⟨_,_,rfl,by simp,fun _=>rfl,fun h=>by cases h⟩
  rw[if_neg h2,if_neg h2]
  by_cases h3:p.op=3
  ·rw[if_pos h3,if_pos h3,P.YE]
   refine⟨_,_,rfl,by simp,fun h=> ?_,fun h=> ?_⟩
   ·rw[if_pos (ZCh.1 h)]
   ·rw[if_neg fun q=>by rw[ZI q]at h;cases h]
  rw[if_neg h3,if_neg h3]
  by_cases h5:p.op=5
  ·rw[if_pos h5,if_pos h5]
   have e5:=Zl ho h5
   have l2:p.kids.length=2:=by rw[hl,e5];rfl
   have t0:(ZG w t p)[0]'(by rw[e5];simp)=t:=by simp[e5]
   have t1:(ZG w t p)[1]'(by rw[e5];simp)=t:=by simp[e5]
   have s0:=hk 0 (Nat.zero_le _) (by rw[e5];simp) (by rw[e5];simp) (by omega)
   have s1:=hk 1 (Nat.zero_le _) (by rw[e5];simp) (by rw[e5];simp) (by omega)
   rw[t0]at s0
   rw[t1]at s1
   have w0:=ZAM Pattern.wt (gM (l:=p.kids) (n:=0) (by omega))
   have w1:=ZAM Pattern.wt (gM (l:=p.kids) (n:=1) (by omega))
   obtain⟨l,b,e1,e2,e3,e4⟩:=P.YF d t _ e v s0 hv (by omega)
   obtain⟨l',b',f1,f2,f3,f4⟩:=P.YF d t _ e v s1 hv (by omega)
   rw[ZAA (by omega),ZAA (by omega),gQ (by omega),gQ (by omega)]
   simp only[oE,oS,e1]
   cases b with
   |true=>rw[if_pos rfl,e3 rfl];exact⟨_,_,rfl,by show l.length<=_;omega,fun _=>rfl,fun h=>by cases h⟩
   |false=>
    rw[if_neg (by simp),f1,e4 rfl]
    exact⟨_,_,rfl,by show l'.length<=_;omega,fun h=>by rw[f3 h];rfl,fun h=>by rw[f4 h];rfl⟩
  rw[if_neg h5,if_neg h5]
  by_cases h6:p.op=6
  ·rw[if_pos h6,if_pos h6]
   have e6:ZG w t p=[t]:=by unfold ZG;rw[if_neg (by omega),if_neg h5,if_pos h6]
   have l1:p.kids.length=1:=by rw[hl,e6];rfl
   have t0:(ZG w t p)[0]'(by rw[e6];simp)=t:=by simp[e6]
   have s0:=hk 0 (Nat.zero_le _) (by rw[e6];simp) (by rw[e6];simp) (by omega)
   rw[t0]at s0
   have w0:=ZAM Pattern.wt (gM (l:=p.kids) (n:=0) (by omega))
   obtain⟨l,b,e1,e2,e3,e4⟩:=P.YF d t _ e v s0 hv (by omega)
   rw[ZAA (by omega),gQ (by omega)]
   simp only[oE,oS,e1]
   rw[if_pos (by simp;omega)]
   exact⟨_,_,rfl,by simp;omega,fun h=>by rw[e3 h];rfl,fun h=>by rw[e4 h];rfl⟩
  rw[if_neg h6,if_neg h6]
  have h4:p.op=4:=by omega
  have e4:ZG w t p=ZK w t p.ctor:=by unfold ZG;rw[if_pos h4]
  have hct:p.ctor∈ZN w t:=by rcases own with h|h|h|h|h|h<;>first|exact h.2.2.2.2|omega
  by_cases hc:p.ctor=v.ctor
  ·rw[if_pos hc,if_pos hc]
   obtain⟨v1,v2,v3⟩:=ZMd hv (ZT hct).1
   have hvl:v.kids.length=p.kids.length:=by rw[v2,hl,e4,hc]
   have key:∀(m i:Nat) (out:List Bind),p.kids.length-i=m->out.length+((p.kids.drop i).map fun k=>1+k.wt).sum<=67108864->
     ∃o,F.f157 p v out i=some o/\((∃r,o=.go (out++r)/\r.length<=((p.kids.drop i).map fun k=>1+k.wt).sum/\mtK (mt d) (p.kids.drop i) (v.kids.drop i)=some r)∨(o=.ret ([],false)/\mtK (mt d) (p.kids.drop i) (v.kids.drop i)=none)):=by
    intro m
    induction m with
    |zero=>
     intro i out hm hb
     rw[F.f157,if_neg (by omega),List.drop_eq_nil_of_le (as:=p.kids) (i:=i) (by omega)]
     exact⟨_,rfl,.inl ⟨[],by simp,by simp,by simp[mtK]⟩⟩
    |succ m ih=>
     intro i out hm hb
     have hi:i<p.kids.length:=by omega
     have hi':i<v.kids.length:=by omega
     have hit:i<(ZG w t p).length:=by omega
     rw[List.drop_eq_getElem_cons hi]at hb
     simp only[List.map_cons,List.sum_cons]at hb
     obtain⟨e',he⟩:=v3 i (by rw[←hc,←e4];exact hit) hi'
     have et:(ZK w t v.ctor)[i]'(by rw[←hc,←e4];exact hit)=(ZG w t p)[i]:=by simp only[e4,hc]
     rw[et]at he
     have wi:=ZAM Pattern.wt (gM hi)
     obtain⟨l,b,e1,e2,e3,e4⟩:=P.YF d _ _ e' _ (hk i (Nat.zero_le _) hit hit hi) he (by omega)
     rw[F.f157,if_pos hi,gQ hi,gQ hi',List.drop_eq_getElem_cons hi,List.drop_eq_getElem_cons hi',mtK]
     simp only[oE,oS,e1,List.map_cons,List.sum_cons]
     cases b with
     |true=>
      rw[if_pos rfl,if_pos (by omega),e3 rfl]
      obtain⟨o,g1,g2⟩:=ih (i+1) (out++l) (by omega) (by rw[List.length_append];omega)
      refine⟨o,g1,?_⟩
      rcases g2 with⟨r,q1,q2,q3⟩|⟨q1,q2⟩
      ·refine .inl ⟨l++r,by rw[q1,List.append_assoc],by rw[List.length_append];omega,?_⟩
       rw[q3];rfl
      ·refine .inr ⟨q1,?_⟩
       rw[q2];rfl
     |false=>
      rw[if_neg (by simp),e4 rfl]
      exact⟨_,rfl,.inr ⟨rfl,rfl⟩⟩
   obtain⟨o,e1,e2⟩:=key _ 0 [] rfl (by simp at hsum ⊢;omega)
   rw[e1]
   rw[List.drop_zero,List.drop_zero]at e2
   rw[List.drop_zero]at hsum
   rcases e2 with⟨r,rfl,q2,q3⟩|⟨rfl,q2⟩
   ·exact⟨r,true,rfl,by omega,fun _=>q3,fun h=>by cases h⟩
   ·exact⟨[],false,rfl,by simp,(fun h=>by cases h),fun _=>q2⟩
  ·rw[if_neg hc,if_neg hc];exact⟨_,_,rfl,by simp,(fun h=>by cases h),fun _=>rfl⟩
noncomputable def mtR (d:Nat)(p:Pattern)(v:Value):List Bind×Bool:=match mt d p v with|some l=>(sortI Bind.var l,true)|none=>([],false)
theorem P.YAA {w:List Data}(d:Nat)(t:Ty)(p:Pattern)(e:Nat)(v:Value)(hs:ZV w d t p)(hl:ZEA w d t p)(hv:pv w false e t v)(hp:p.wt<=1048576)(hvw:v.wt<=1048576):F.f162 p v=some (mtR d p v):=by
 unfold F.f162 mtR
 obtain⟨l,b,e1,e2,e3,e4⟩:=P.YF d t p e v hs hv hp
 rw[e1]
 simp only[oE,oS]
 cases b with
 |false=>rw[if_neg (by simp),e4 rfl]
 |true=>
  have hm:=e3 rfl
  have hn:=(ZDU hs hl hm).2
  have hw:=ZJf d hm
  rw[if_pos rfl,hm]
  unfold F.f158
  rw[if_pos ⟨hn,by omega⟩]
  simp only[oS]
  have hsl:(sortI (fun x:Bind=>x.var) l).length=l.length:=ZDH l
  have hsw:∀x,x∈sortI (fun x:Bind=>x.var) l->x.value.wt<=v.wt:=fun x hx=>hw x (ZE4.1 hx)
  have key:∀(s:List Bind),(∀x,x∈s->x.value.wt<=v.wt)->s.length<=2000000->∀m i,s.length-i=m->F.f161 s s i=some s:=by
   intro s hs1 hs2 m
   induction m with
   |zero=>intro i hm;rw[F.f161,if_neg (by omega)]
   |succ m ih=>
    intro i hm
    have hi:i<s.length:=by omega
    rw[F.f161,if_pos hi,gQ hi]
    simp only[oE,oS]
    have:=hs1 _ (gM hi)
    rw[P.Yt _ (by omega)]
    simp only[oS]
    rw[if_pos (by omega)]
    have e:s.set i ⟨s[i].var,s[i].value⟩=s:=List.set_getElem_self hi
    rw[e]
    exact ih (i+1) (by omega)
  rw[key _ hsw (by omega) _ 0 rfl]
  rfl
theorem P.YI (w:List Data)(hw:ZAE w)(t:Ty)(p:Pattern)(v:Value)(ht:ZA6 w t)(hp:ZCB w t p)(hv:v.wt<=1048576):F.f163 w t p v=some (if dec (pv w false 10 t v/\1+v.wt<=60)=true then mtR 10 p v else([],false)):=by
 have h60:=hp.2.2
 unfold F.f163
 rw[P.YA w hw t p (by omega),ZI ⟨ht,hp⟩]
 simp only[oE,oS]
 rw[if_pos True.intro]
 unfold F.f155
 obtain⟨b,c,h1,h2,_⟩:=P.Yw w ht.1 false 10 t v 0 (by omega) (ZA7 ht.2.1) (by omega)
 have h1':F.f152 w t v 1 false 0=some (b,(c:Int)):=h1
 rw[h1']
 simp only[oE,oS]
 cases b with
 |true=>
  obtain⟨q1,q2⟩:=h2.1 rfl
  rw[if_pos rfl,P.YAA 10 t p 10 v hp.1 hp.2.1 q1 (by omega) hv,if_pos (ZI ⟨q1,by omega⟩)]
  rfl
 |false=>
  rw[if_neg (by simp),if_neg]
  rw[ZF fun hh=>by have:=h2.2 ⟨hh.1,by have:=hh.2;omega⟩;cases this];simp
theorem Value.wt_set {k:Value}{n ctor n' ctor':Int}{ks:List Value}(h:0<ks.length):(⟨ctor,n,ks.set 0 k⟩:Value).wt+ks[0].wt=(⟨ctor',n',ks⟩:Value).wt+k.wt:=by
 cases ks with
 |nil=>simp at h
 |cons y r=>simp[Value.wt];omega
theorem P.YAG {b:List Int}(hb:∀x,x∈b->0<=x/\x<=255)(hl:b.length<=2000)(h0:0<b.length):∀(d p:Nat) (e:Value),2<=ZBh b p d->p+d<=1048000->e.wt+d<=1048500->
  ∃e' k,F.f89 ⟨b,(p:Int)⟩ e=some (e',⟨b,((p+k:Nat):Int)⟩)/\k<=d+1/\ZBh b p k<=1/\e'.wt<=e.wt+k:=by
 intro d
 induction d using Nat.strongRecOn with
 |ind d ih=>
  intro p e hw hp he
  obtain⟨ctor,n,ks⟩:=e
  have hd:=ZKW b p d
  obtain⟨d',rfl⟩:∃d',d=d'+1:=⟨d-1,by omega⟩
  have hws:=ZBM b p d'
  have hg:=ZLL (pNat b p)
  have hlen:ks.length<=(⟨ctor,n,ks⟩:Value).wt:=by simp[Value.wt]
  rw[F.f89,if_pos (by show ks.length<=_;omega),P.YAW hb hl p (by omega)]
  simp only[oE,oS]
  by_cases c0:pNat b p=0
  ·rw[if_pos (by omega)]
   obtain⟨v,ev⟩:=P.YAL hb hl (p+1) (by omega) [0,1,-1,9,-2] (by simp)
   rw[ev]
   refine⟨_,2,rfl,by omega,?_,by simp[Value.wt]⟩
   rw[ZBM,ZAV,c0]
   have:=ZLL (pNat b (p+1))
   have:gP 0=0:=rfl
   omega
  rw[if_neg (by omega)]
  by_cases c1:pNat b p=1
  ·rw[if_pos (by omega)]
   obtain⟨v,ev⟩:=P.YAL hb hl (p+1) (by omega) [10,-1,1] (by simp)
   rw[ev]
   refine⟨_,2,rfl,by omega,?_,by simp[Value.wt]⟩
   rw[ZBM,ZAV,c1]
   have:=ZLL (pNat b (p+1))
   have:gP 1=0:=rfl
   omega
  rw[if_neg (by omega)]
  by_cases c2:pNat b p=2
  ·rw[if_pos (by omega),if_pos (by show ks.length+1<=_;omega)]
   refine⟨_,1,rfl,by omega,by rw[ZAV];exact hg,?_⟩
   simp[Value.wt];omega
  rw[if_neg (by omega)]
  by_cases c3:pNat b p=3
  ·rw[if_pos (by omega)]
   by_cases hk:0<ks.length
   ·rw[if_pos hk]
    show ∃e' k,(ks[0]? >>=_)=_/\_
    rw[gQ hk]
    simp only[oE,oS]
    have hg3:gP (pNat b p)= -1:=by rw[c3];rfl
    have hk0:ks[0].wt+1<=(⟨ctor,n,ks⟩:Value).wt:=by
     have:=Value.wt_set (k:=⟨ctor,n,[]⟩) (n:=n) (ctor:=ctor) (n':=n) (ctor':=ctor) hk
     have h2:(⟨ctor,n,[]⟩:Value).wt=0:=by simp[Value.wt]
     have h3:1<=(⟨ctor,n,ks.set 0 ⟨ctor,n,[]⟩⟩:Value).wt:=by
      simp only[Value.wt,List.length_set];omega
     omega
    obtain⟨e1,k1,g1,g2,g3,g4⟩:=ih d' (by omega) (p+1) ks[0] (by omega) (by omega) (by omega)
    rw[g1]
    simp only[oS]
    have hk1:k1<=d':=by
     by_cases hh:k1=d'+1
     ·subst hh
      have a1:=ZA5 b (p+1) d' 1
      rw[ZAV]at a1
      have:=ZNH (pNat b (p+1+d'))
      omega
     ·omega
    have a1:=ZA5 b (p+1) k1 (d'-k1)
    rw[show k1+(d'-k1)=d' by omega]at a1
    obtain⟨e2,k2,q1,q2,q3,q4⟩:=ih (d'-k1) (by omega) (p+1+k1) e1 (by omega) (by omega) (by omega)
    rw[q1]
    simp only[oS]
    refine⟨_,1+k1+k2,by rw[show p+(1+k1+k2)=p+1+k1+k2 by omega],by omega,?_,?_⟩
    ·rw[show 1+k1+k2=(k1+k2)+1 by omega,ZBM,ZA5];omega
    ·have:=Value.wt_set (k:=e2) (n:=n) (ctor:=ctor) (n':=n) (ctor':=ctor) hk
     omega
   ·rw[if_neg hk]
    exact⟨_,1,rfl,by omega,by rw[ZAV];exact hg,by omega⟩
  ·rw[if_neg (by omega)]
   exact⟨_,1,rfl,by omega,by rw[ZAV];exact hg,by omega⟩
theorem P.YAZ {K:Nat}{r:ZB}(h:rok K r)(hK:K<=4000)(e:Value)(he:e.wt<=4000):
  ∃e1 r1,F.f89 r e=some (e1,r1)/\rok 1048100 r1/\e1.wt<=1048500:=by
 obtain⟨b,q⟩:=r
 obtain⟨hl,hb,hq,hqK⟩:=h
 simp only at hl hb hq hqK
 obtain⟨p,rfl⟩:=Int.eq_ofNat_of_zero_le hq
 by_cases h0:0<b.length
 ·obtain⟨d,hd,hw⟩:=ZKY hb hl h0 (p:=p) (by omega)
  obtain⟨e1,k1,g1,g2,g3,g4⟩:=P.YAG hb hl h0 d p e (by omega) (by omega) (by omega)
  exact⟨e1,_,g1,⟨hl,hb,by simp only;omega,by simp only;omega⟩,by omega⟩
 ·have hb0:b.length=0:=by omega
  obtain⟨ctor,n,ks⟩:=e
  have hlen:ks.length<=(⟨ctor,n,ks⟩:Value).wt:=by simp[Value.wt]
  rw[F.f89,if_pos (by show ks.length<=_;omega),P.YAW hb hl p (by omega)]
  have hp0:pNat b p=0:=by unfold pNat;rw[if_pos hb0]
  obtain⟨v,ev⟩:=P.YAL hb hl (p+1) (by omega) [0,1,-1,9,-2] (by simp)
  simp only[oE,oS]
  rw[if_pos (by omega),ev]
  refine⟨_,_,rfl,⟨hl,hb,by simp only;omega,by simp only;omega⟩,?_⟩
  have:(⟨v,n,ks⟩:Value).wt=(⟨ctor,n,ks⟩:Value).wt:=by simp[Value.wt]
  show(⟨v,n,ks⟩:Value).wt<=_
  omega
theorem P.YAg (w:List Data)(hw:w.length<=1000/\∀d,d∈w->d.ctors.length<=1000/\∀c,c∈d.ctors->c.args.length<=1000):F.f98 w=some w:=by
 unfold F.f98
 have inner:∀(out:List Data) (d:Nat) (x:Data) (hd:d<w.length) (m k:Nat) (out7:List Ctor),w[d].ctors.length-k=m->out7.length+m<=2000->F.f96 w out d x out7 k=some (out7++w[d].ctors.drop k):=by
  intro out d x hd m
  obtain⟨h1,h2⟩:=hw.2 _ (gM hd)
  induction m with
  |zero=>
   intro k out7 hm hb
   rw[F.f96,gQ hd]
   simp only[oE,oS]
   rw[if_neg (by omega),List.drop_eq_nil_of_le (by omega),List.append_nil]
  |succ m ih=>
   intro k out7 hm hb
   have hk:k<w[d].ctors.length:=by omega
   have:=h2 _ (gM hk)
   rw[F.f96,gQ hd]
   simp only[oE,oS]
   rw[if_pos hk,gQ hk]
   simp only[oS]
   rw[if_pos (by omega),if_pos (by omega),if_pos (by omega),ih (k+1) _ (by omega) (by simp;omega),List.drop_eq_getElem_cons hk]
   simp
 have outer:∀(m d:Nat) (out:List Data),w.length-d=m->out.length+m<=2000->F.f97 w out d=some (out++w.drop d):=by
  intro m
  induction m with
  |zero=>intro d out hm hb;rw[F.f97,if_neg (by omega),List.drop_eq_nil_of_le (by omega),List.append_nil]
  |succ m ih=>
   intro d out hm hb
   have hd:d<w.length:=by omega
   have:=(hw.2 _ (gM hd)).1
   rw[F.f97,if_pos hd,gQ hd]
   simp only[oE,oS]
   rw[inner out d w[d] hd _ 0 [] rfl (by simp;omega)]
   simp only[oS]
   rw[if_pos (by omega),if_pos (by omega),show(⟨w[d].name,[]++w[d].ctors.drop 0⟩:Data)=w[d]from by rw[List.drop_zero,List.nil_append],ih (d+1) _ (by omega) (by simp;omega),List.drop_eq_getElem_cons hd]
   simp
 rw[outer _ 0 [] rfl (by simp;omega)]
 simp
theorem P.of {K:Nat}{r:ZB}(h:rok K r)(hK:K<=1099511627776)(l:List ByteArray)(hl:l≠[]):∃v r',F.f99 r l=some (v,r')/\rok (K+1) r'/\v∈l:=by
 unfold F.f99
 obtain⟨v,r',e,h1,h2,h3,_⟩:=P.YJ h hK (l.length:Int)
 have hp:0<l.length:=List.length_pos_iff.2 hl
 have hv:=h3 (by omega)
 obtain⟨k,rfl⟩:=Int.eq_ofNat_of_zero_le h2
 have hk:k<l.length:=by omega
 rw[e]
 simp only[oE,oS]
 rw[ZHd,gQ hk]
 exact⟨_,_,rfl,h1,gM hk⟩
theorem P.YAH {K:Nat}{r:ZB}(hr:rok K r)(hK:K+10<=1099511627776){w:List Data}(hw:w∈ZAO):∃w' r',F.f100 r w=some (w',r')/\rok (K+4) r'/\ZAE w':=by
 obtain⟨hwo,hl1,hl2,hs,_⟩:=ZG3 hw
 have hb:w.length<=1000/\∀d,d∈w->d.ctors.length<=1000/\∀c,c∈d.ctors->c.args.length<=1000:=by
  simp only[ZAO,List.mem_cons,List.not_mem_nil,or_false]at hw
  rcases hw with rfl|rfl|rfl|rfl|rfl|rfl|rfl<;>exact⟨by decide,by decide⟩
 unfold F.f100
 rw[P.YAg w hb]
 obtain⟨v,r1,e1,h1,h2,h3,_⟩:=P.YJ hr (by omega) (w.length:Int)
 have hv:=h3 (by omega)
 obtain⟨d,rfl⟩:=Int.eq_ofNat_of_zero_le h2
 have hd:d<w.length:=by omega
 simp only[oE,oS,e1,ZHd,gQ hd]
 have ZHr:∀(x:Data),(∀c,c∈x.ctors->c.name.size<=1048576)->ZAE (w.set d x):=fun x hx=>by
  refine⟨by rw[List.length_set];exact hs.1,fun y hy c hc=> ?_⟩
  rcases List.mem_or_eq_of_mem_set hy with hy|rfl
  ·exact hs.2 y hy c hc
  ·exact hx c hc
 have hsd:∀c,c∈w[d].ctors->c.name.size<=1048576:=fun c hc=>hs.2 _ (gM hd) c hc
 have hr4:∀{k:Nat} {r:ZB},k<=4->rok (K+k) r->rok (K+4) r:=fun hk h=>⟨h.1,h.2.1,h.2.2.1,by have:=h.2.2.2;omega⟩
 by_cases h0:w[d].ctors.length=0
 ·rw[if_pos h0];exact⟨_,_,rfl,hr4 (k:=1) (by omega) h1,hs⟩
 rw[if_neg h0]
 have hc0:0<w[d].ctors.length:=by omega
 have hcm:=gM hc0
 obtain⟨p,r2,e2,g1,g2,_⟩:=P.YJ h1 (by omega) 30
 simp only[gQ hc0,oS,e2]
 have set0:∀(c:Ctor),c.name.size<=1048576->∀y,y∈w[d].ctors.set 0 c->y.name.size<=1048576:=fun c hc y hy=>by
  rcases List.mem_or_eq_of_mem_set hy with hy|rfl
  ·exact hsd y hy
  ·exact hc
 have g1':rok (K+2) r2:=g1
 split
 ·obtain⟨s,r3,e3,q1,_⟩:=P.of g1' (by omega) [(⟨#[73]⟩:ByteArray),ByteArray.empty,(⟨#[97]⟩:ByteArray),(⟨#[76,76]⟩:ByteArray),(⟨#[90]⟩:ByteArray)] (by simp)
  rw[e3]
  exact⟨_,_,rfl,hr4 (k:=3) (by omega) q1,ZHr _ hsd⟩
 split
 ·exact⟨_,_,rfl,hr4 (k:=2) (by omega) g1',ZHr _ (by simp)⟩
 split
 ·obtain⟨s,r3,e3,q1,q2⟩:=P.of g1' (by omega) [ByteArray.empty,(⟨#[110,105,108]⟩:ByteArray),(⟨#[84,111,111,108,111,110,103]⟩:ByteArray),(⟨#[88]⟩:ByteArray)] (by simp)
  rw[e3]
  simp only[List.mem_cons,List.not_mem_nil,or_false]at q2
  have q3:s.size<=1048576:=by rcases q2 with rfl|rfl|rfl|rfl<;>decide
  exact⟨_,_,rfl,hr4 (k:=3) (by omega) q1,ZHr _ (set0 _ q3)⟩
 split
 ·obtain⟨s,r3,e3,q1,_⟩:=P.num g1' (by omega) [9,-2,0,-1] (by simp)
  obtain⟨s2,r4,e4,q2,_⟩:=P.num q1 (by omega) [0,4,-1,-2] (by simp)
  rw[e3]
  simp only[oS]
  rw[e4]
  simp only[oS]
  have:=(hb.2 _ (gM hd)).2 _ hcm
  rw[if_pos (by omega)]
  exact⟨_,_,rfl,hr4 (k:=4) (by omega) q2,ZHr _ (set0 _ (hsd w[d].ctors[0] hcm))⟩
 split
 ·obtain⟨s,r3,e3,q1,_⟩:=P.num g1' (by omega) [4,-1,1] (by simp)
  rw[e3]
  exact⟨_,_,rfl,hr4 (k:=3) (by omega) q1,ZHr _ (set0 _ (hsd w[d].ctors[0] hcm))⟩
 split
 ·rw[if_pos (by omega)]
  refine⟨_,_,rfl,hr4 (k:=2) (by omega) g1',by rw[List.length_append];simp;omega,fun y hy c hc=> ?_⟩
  rcases List.mem_append.1 hy with hy|hy
  ·exact hs.2 y hy c hc
  ·rw[List.mem_singleton.1 hy]at hc;exact hsd c hc
 ·exact⟨_,_,rfl,hr4 (k:=2) (by omega) g1',hs⟩
def Pattern.bare :Pattern->Pattern
 |⟨op,ctor,n,m,var,kids⟩=>
  if op=2 then⟨1,0,0,0,0,[]⟩
  else if op=6 then match kids.map fun k=>Pattern.bare k with
   | []=>⟨op,ctor,n,m,var,[]⟩
   |k::_=>k
  else⟨op,ctor,n,m,var,kids.map fun k=>Pattern.bare k⟩
theorem Pattern.bare_eq (p : Pattern) : p.bare = if p.op = 2 then ⟨1, 0, 0, 0, 0, []⟩ else if p.op = 6 then (match p.kids.map Pattern.bare with
   | []=>⟨p.op,p.ctor,p.n,p.m,p.var,[]⟩
   |k::_=>k)else⟨p.op,p.ctor,p.n,p.m,p.var,p.kids.map Pattern.bare⟩:=by cases p;rw[Pattern.bare]
theorem ZD0 {α β:Type}{f:α->β}{w:α->Nat}{v:β->Nat}:∀{l:List α},(∀x,x∈l->v (f x)<=w x)->wtL v (l.map f)<=wtL w l
 | [],_=>by simp
 |a::r,h=>by
  have h1:=h a (by simp)
  have h2:=ZD0 (l:=r) fun x hx=>h x (List.mem_cons_of_mem _ hx)
  simp only[List.map_cons,ZC4];omega
theorem Pattern.bare_wt (p:Pattern):p.bare.wt<=p.wt:=by
 induction p using Pattern.ind with
 |_ p ih=>
  rw[Pattern.bare_eq]
  split
  ·rw[Pattern.wt_eq];simp
  ·split
   ·cases hk:p.kids with
    |nil=>simp only[List.map_nil];rw[Pattern.wt_eq];simp
    |cons k r=>
     simp only[List.map_cons]
     have:=ih k (by rw[hk];simp)
     rw[Pattern.wt_eq p,hk]
     simp only[ZC4];omega
   ·rw[Pattern.wt_eq,Pattern.wt_eq p]
    exact ZD0 fun x hx=>ih x hx
theorem P.YC (p:Pattern)(hw:p.wt<=1048576):F.f103 p=some p.bare/\F.f92 p=some p.bare:=by
 induction p using Pattern.ind with
 |_ p ih=>
  have hwk:=hw
  rw[Pattern.wt_eq]at hwk
  have hlen:=ZDB Pattern.wt p.kids
  have ihk:∀k,k∈p.kids->F.f103 k=some k.bare/\F.f92 k=some k.bare:=fun k hk=>ih k hk (by have:=ZAM Pattern.wt hk;omega)
  have L1:F.f104 p [] 0=some (p.kids.map Pattern.bare):=by
   have:=ZBH (L:=F.f104 p) (a:=p.kids) (g:=Pattern.bare) (f:=F.f103) (fun out i=>by rw[F.f104]) (fun x hx=>(ihk x hx).1) _ 0 [] rfl (by simp;omega)
   simpa using this
  have L2:F.f105 p [] 0=some (p.kids.map Pattern.bare):=by
   have:=ZBH (L:=F.f105 p) (a:=p.kids) (g:=Pattern.bare) (f:=F.f103) (fun out i=>by rw[F.f105]) (fun x hx=>(ihk x hx).1) _ 0 [] rfl (by simp;omega)
   simpa using this
  have L3:F.f93 p [] 0=some (p.kids.map Pattern.bare):=by
   have:=ZBH (L:=F.f93 p) (a:=p.kids) (g:=Pattern.bare) (f:=F.f92) (fun out i=>by rw[F.f93]) (fun x hx=>(ihk x hx).2) _ 0 [] rfl (by simp;omega)
   simpa using this
  have L4:F.f94 p [] 0=some (p.kids.map Pattern.bare):=by
   have:=ZBH (L:=F.f94 p) (a:=p.kids) (g:=Pattern.bare) (f:=F.f92) (fun out i=>by rw[F.f94]) (fun x hx=>(ihk x hx).2) _ 0 [] rfl (by simp;omega)
   simpa using this
  rw[Pattern.bare_eq]
  unfold F.f103 F.f92
  simp only[L1,L2,L3,L4,F.f91,oE,oS]
  by_cases h2:p.op=2
  ·simp[h2]
  ·rw[if_neg h2,if_neg h2,if_neg h2]
   by_cases h6:p.op=6
   ·rw[if_pos h6,if_pos h6,if_pos h6]
    cases hk:p.kids with
    |nil=>simp
    |cons k r=>
     have:=ihk k (by rw[hk];simp)
     simp[this.1,this.2]
   ·rw[if_neg h6,if_neg h6,if_neg h6]
    exact⟨rfl,rfl⟩
theorem Pattern.bare_bare (p:Pattern):p.bare.bare=p.bare:=by
 induction p using Pattern.ind with
 |_ p ih=>
  have hm:(p.kids.map Pattern.bare).map Pattern.bare=p.kids.map Pattern.bare:=by
   rw[List.map_map]
   exact List.map_congr_left fun x hx=>ih x hx
  rw[Pattern.bare_eq p]
  by_cases h2:p.op=2
  ·rw[if_pos h2,Pattern.bare_eq];rfl
  rw[if_neg h2]
  by_cases h6:p.op=6
  ·rw[if_pos h6]
   cases hk:p.kids with
   |nil=>simp only[List.map_nil];rw[Pattern.bare_eq,if_neg h2,if_pos h6];rfl
   |cons k r=>simp only[List.map_cons];exact ih k (by rw[hk];exact List.mem_cons_self ..)
  ·rw[if_neg h6,Pattern.bare_eq,if_neg h2,if_neg h6,hm]
def noV :Nat->Pattern->Prop
 |0,_=>True
 |d+1,p=>p.op≠2/\p.op≠6/\∀i (h:i<p.kids.length),noV d p.kids[i]
theorem ZHM {w:List Data}:∀{d:Nat} {t:Ty} {p:Pattern},ZV w d t p->noV d p->noV (d+1) p
 |d+1,t,p,hs,h=>⟨h.1,h.2.1,fun i hi=>ZHM (hs.2.2 i (Nat.zero_le _) (by rw[←hs.2.1];exact hi) (by rw[←hs.2.1];exact hi) hi) (h.2.2 i hi)⟩
theorem ZHL {w:List Data}:∀{d:Nat} {t:Ty} {p:Pattern},ZV w d t p->noV d p->ZY w d t p=[]/\ZEA w d t p
 |d+1,t,p,hs,h=>by
  have hk:∀i (h1:i<(ZG w t p).length) (h2:i<p.kids.length),ZY w d (ZG w t p)[i] p.kids[i]=[]/\ZEA w d (ZG w t p)[i] p.kids[i]:=fun i h1 h2=>ZHL (hs.2.2 i (Nat.zero_le _) h1 h1 h2) (h.2.2 i h2)
  have hv:ZY w (d+1) t p=[]:=by
   rw[ZY,if_neg (by rintro(q|q);exact h.1 q;exact h.2.1 q),flat_nil _ fun i h1 h2=>(hk i h1 h2).1];rfl
  refine⟨hv,fun i _ _ h1 h2=>(hk i h1 h2).2,?_⟩
  split
  ·next h5=>
   intro h0 h1
   have e5:=Zl hs.1 h5
   have t0:(ZG w t p)[0]'(by rw[e5];simp)=t:=by simp[e5]
   have t1:(ZG w t p)[1]'(by rw[e5];simp)=t:=by simp[e5]
   have a:=(hk 0 (by rw[e5];simp) h0).1
   have b:=(hk 1 (by rw[e5];simp) h1).1
   rw[t0]at a
   rw[t1]at b
   rw[a,b]
   exact⟨rfl,fun x hx=>hx⟩
  ·rw[hv];simp[ZEz]
theorem ZHO {f g:Pattern->Value->Option (List Bind)}:∀{ps qs:List Pattern} {vs:List Value},qs.length=ps.length->(∀i (h1:i<qs.length) (h2:i<ps.length) (v:Value),f qs[i] v=(g ps[i] v).map fun _=>[])->mtK f qs vs=(mtK g ps vs).map fun _=>[]
 | [],[],vs,_,_=>by simp[mtK]
 | [],_::_,_,h,_=>by simp at h
 |_::_,[],_,h,_=>by simp at h
 |p::ps,q::qs,[],_,_=>by simp[mtK]
 |p::ps,q::qs,v::vs,h,hh=>by
  have h0:=hh 0 (by simp) (by simp) v
  have hr:=ZHO (f:=f) (g:=g) (ps:=ps) (qs:=qs) (vs:=vs) (by simpa using h) fun i a b v=>by
   have:=hh (i+1) (by simpa using a) (by simpa using b) v
   simpa using this
  simp only[List.getElem_cons_zero]at h0
  rw[mtK,mtK,h0,hr]
  cases g p v with
  |none=>rfl
  |some a=>cases mtK g ps vs<;>rfl
theorem ZKD {w:List Data}:∀{d:Nat} {t:Ty} {p:Pattern},ZV w d t p->ZV w d t p.bare/\noV d p.bare/\∀v,mt d p.bare v=(mt d p v).map fun _=>[]
 |d+1,t,p,hs=>by
  obtain⟨ho,hl,hk⟩:=hs
  have IH:∀i (h1:i<(ZG w t p).length) (h2:i<p.kids.length),ZV w d (ZG w t p)[i] p.kids[i].bare/\noV d p.kids[i].bare/\∀v,mt d p.kids[i].bare v=(mt d p.kids[i] v).map fun _=>[]:=fun i h1 h2=>ZKD (hk i (Nat.zero_le _) h1 h1 h2)
  have own:=ho
  unfold ZAk at own
  rw[Pattern.bare_eq]
  by_cases h2:p.op=2
  ·rw[if_pos h2]
   obtain⟨x1,_,_⟩:=ZKJ (w:=w) d (t:=t)
   refine⟨x1,⟨by decide,by decide,fun i hi=>by simp at hi⟩,fun v=> ?_⟩
   rw[ZOV d rfl,mt,if_neg (by omega),if_pos h2];rfl
  rw[if_neg h2]
  by_cases h6:p.op=6
  ·have e6:ZG w t p=[t]:=by unfold ZG;rw[if_neg (by omega),if_neg (by omega),if_pos h6]
   have hl1:p.kids.length=1:=by rw[hl,e6];rfl
   have t0:(ZG w t p)[0]'(by rw[e6];simp)=t:=by simp[e6]
   obtain⟨a1,a2,a3⟩:=IH 0 (by rw[e6];simp) (by omega)
   rw[t0]at a1
   rw[if_pos h6]
   have hm:p.kids.map Pattern.bare=[(p.kids[0]'(by omega)).bare]:=by
    refine List.ext_getElem (by simpa using hl1) fun i q1 q2=> ?_
    simp only[List.length_singleton]at q2
    obtain rfl:i=0:=by omega
    simp
   rw[hm]
   refine⟨ZD4 a1,ZHM a1 a2,fun v=> ?_⟩
   show mt (d+1) (p.kids[0]'(by omega)).bare v=_
   rw[ZJg v a1,a3 v,mt,if_neg (by omega),if_neg h2,if_neg (by omega),if_neg (by omega),if_pos h6,ZAA (by omega),Option.map_map]
   rfl
  rw[if_neg h6]
  have et:ZG w t (⟨p.op,p.ctor,p.n,p.m,p.var,p.kids.map Pattern.bare⟩:Pattern)=ZG w t p:=rfl
  refine⟨⟨ho,by rw[et,←hl];simp,fun i _ _ h1 h3=> ?_⟩,⟨h2,h6,fun i hi=> ?_⟩,fun v=> ?_⟩
  ·have h3':i<p.kids.length:=by simpa using h3
   simp only[List.getElem_map]
   exact(IH i h1 h3').1
  ·have h3':i<p.kids.length:=by simpa using hi
   simp only[List.getElem_map]
   exact(IH i (by omega) h3').2.1
  ·rw[mt,mt]
   show(if p.op=1 then _ else if p.op=2 then _ else if p.op=3 then _ else if p.op=5 then _ else if p.op=6 then _ else if p.ctor=v.ctor then _ else _)=_
   by_cases h1:p.op=1
   ·rw[if_pos h1,if_pos h1];rfl
   rw[if_neg h1,if_neg h1,if_neg h2,if_neg h2]
   by_cases h3:p.op=3
   ·rw[if_pos h3,if_pos h3]
    show(if p.n<=v.n/\v.n<=p.m then some ([]:List Bind)else none)=_
    split<;>rfl
   rw[if_neg h3,if_neg h3]
   by_cases h5:p.op=5
   ·rw[if_pos h5,if_pos h5]
    have e5:=Zl ho h5
    have hl2:p.kids.length=2:=by rw[hl,e5];rfl
    rw[ZAA (by show 0<(p.kids.map Pattern.bare).length;simp;omega),ZAA (by show 1<(p.kids.map Pattern.bare).length;simp;omega),ZAA (by omega),ZAA (by omega)]
    simp only[List.getElem_map]
    rw[(IH 0 (by rw[e5];simp) (by omega)).2.2 v,(IH 1 (by rw[e5];simp) (by omega)).2.2 v]
    cases mt d (p.kids[0]'(by omega)) v<;>rfl
   rw[if_neg h5,if_neg h5,if_neg h6,if_neg h6]
   split
   ·exact ZHO (by simp) fun i a b v=>by
     simp only[List.getElem_map]
     exact(IH i (by omega) b).2.2 v
   ·rfl
theorem P.YY (code:List Int)(hc:ZCj code):∃w t p v,F.f90 code=some (w,t,p,v)/\ZAE w/\p.wt<=1048576/\v.wt<=1048576:=by
 have key:∀r,rok 0 r->∃w t p x,((F.f87 r)>>=fun v=>
   (F.f88 v.2.2.2.2 v.2.2.1)>>=fun v6=>
   (F.f89 v6.2 v.2.2.2.1)>>=fun v8=>
   some (v.1,v.2.1,v6.1,v8.1))=some (w,t,p,x)/\ZAE w/\p.wt<=1048576/\x.wt<=1048576:=by
  intro r hr
  obtain⟨w,t,p,v,r1,e1,h1,hw,hwo,ht,hp,hv⟩:=P.YAF hr (by omega)
  have hpw:=hp.2.2
  obtain⟨p',r2,e2,h2,hp2⟩:=P.Yk h1 (by omega) p (by omega)
  obtain⟨x,r3,e3,h3,hx⟩:=P.YAZ h2 (by omega) v (by omega)
  rw[e1]
  simp only[oE,oS]
  rw[e2]
  simp only[oS]
  rw[e3]
  exact⟨w,t,p',x,rfl,ZCu hw,by omega,by omega⟩
 unfold F.f90
 by_cases hcl:2000<code.length
 ·rw[if_pos hcl,if_pos (by omega)];exact key _ (ZI6 hc)
 ·rw[if_neg hcl];exact key _ (ZHF hc (by omega))
theorem P.Ye (code:List Int)(hc:ZCj code):∃p,F.f102 code=some p/\p.wt<=1048576:=by
 have key:∀r,rok 0 r->∃w t p,((F.f87 r)>>=fun v=>
   (F.f1 v.2.2.2.2 10)>>=fun v6=>
   if v6.1=0 then
    (F.f95 v6.2 v.1)>>=fun v10=>
    (F.f100 v10.2 v.1)>>=fun v12=>
    (F.f88 v12.2 v.2.2.1)>>=fun v14=>
    some (v12.1,v10.1,v14.1)
   else
    (F.f100 v6.2 v.1)>>=fun v16=>
    (F.f88 v16.2 v.2.2.1)>>=fun v18=>
    some (v16.1,v.2.1,v18.1))=some (w,t,p)/\p.wt<=1048576:=by
  intro r hr
  obtain⟨w,t,p,v,r1,e1,h1,hw,hwo,ht,hp,hv⟩:=P.YAF hr (by omega)
  have hpw:=hp.2.2
  obtain⟨b,r2,e2,h2,_⟩:=P.YJ h1 (by omega) 10
  rw[e1]
  simp only[oE,oS]
  rw[e2]
  simp only[oS]
  split
  ·obtain⟨t2,r3,e3,h3⟩:=P.YAf h2 (by omega) w
   obtain⟨w',r4,e4,h4,hs⟩:=P.YAH h3 (by omega) hw
   obtain⟨p',r5,e5,h5,hp5⟩:=P.Yk h4 (by omega) p (by omega)
   rw[e3]
   simp only[oS]
   rw[e4]
   simp only[oS]
   rw[e5]
   exact⟨_,_,p',rfl,by omega⟩
  ·obtain⟨w',r4,e4,h4,hs⟩:=P.YAH h2 (by omega) hw
   obtain⟨p',r5,e5,h5,hp5⟩:=P.Yk h4 (by omega) p (by omega)
   rw[e4]
   simp only[oS]
   rw[e5]
   exact⟨_,_,p',rfl,by omega⟩
 have dr:∃w t p,F.f101 code=some (w,t,p)/\p.wt<=1048576:=by
  unfold F.f101
  by_cases hcl:2000<code.length
  ·rw[if_pos hcl,if_pos (by omega)];exact key _ (ZI6 hc)
  ·rw[if_neg hcl];exact key _ (ZHF hc (by omega))
 obtain⟨w,t,p,e,hp⟩:=dr
 unfold F.f102
 rw[e]
 exact⟨p,rfl,hp⟩
end Go.Vl
