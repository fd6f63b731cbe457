/- Plain laws that this one rests on (printed by gen_l.py). -/
import Derived.Test.YtnmbhmbljbhonaaTreeOnceB1
set_option linter.all false
set_option maxRecDepth 100000
namespace Go.Vl
open Go Go.RowKit
theorem P.YAo {w:List Data}{T:List Int}(h:TOk w T)(hT:F.f53 w=some T)(list:List Clause)(hll:list.length≤67108864)(pick:Int):
  ∀(N L:Nat) (cols:List ZB) (rows:List ZA),L<N→L≤300→CompOk w list.length cols rows (1+3*(300-L))→
   ∃(t:Tree) (L':Int),F.f145 w list pick cols rows (L:Int)=some (t,L')∧-1≤L'∧L'<L∧(t.wt:Int)+1≤1000*((L:Int) -L')∧(cols.Pairwise ZAN→OnceT t∧∀q,TestedT t q→∃c,c∈cols∧c.f0<+:q)∧ZGE t:=by
 intro N
 induction N with
 |zero=>intro L cols rows hN;omega
 |succ N ih=>
 intro L cols rows hN hL hc
 have hw1:IntKind.i64.wrap ((L:Int) -1)=(L:Int) -1:=ZG (by omega) (by omega)
 rw[F.f145.eq_def,hw1]
 by_cases h0:(L:Int) -1<0
 ·rw[if_pos h0]
  exact⟨_,_,rfl,by omega,by omega,by rw[ZA7];omega,fun _=>⟨ZAT (by decide),fun q h=>absurd h (ZBU (by decide))⟩,ZAQ (by simp)⟩
 rw[if_neg h0]
 by_cases hr0:rows.length=0
 ·rw[if_pos hr0]
  exact⟨_,_,rfl,by omega,by omega,by rw[ZA7];omega,fun _=>⟨ZAT (by decide),fun q h=>absurd h (ZBU (by decide))⟩,ZAQ (by simp)⟩
 rw[if_neg hr0]
 have h0r:0<rows.length:=by omega
 have hx:=hc.okR _ (List.getElem_mem h0r)
 rw[List.getElem?_eq_getElem h0r]
 simp only[Option.bind_eq_bind,Option.bind_some]
 have hlen:=hx.len
 have hB:=hc.okC.len
 have hfew:=hc.few
 have hL1:(L:Int) -1=((L-1:Nat):Int):=by omega
 rcases P.YAc rows[0]with⟨e,ha⟩|⟨k,hk,e,ho⟩
 ·rw[e]
  simp only[Option.bind_some]
  rw[if_pos (by decide)]
  have hwt:=hx.wt
  obtain⟨bs,e2,b1,b2⟩:=P.YAd rows[0].f2 (by omega) hx.path
  have b3:=ZHY bs b2
  rw[e2]
  simp only[Option.bind_some]
  have hlo:=hx.lo
  have hhi:=hx.hi
  obtain⟨c,hcn⟩:∃c:Nat,rows[0].f0=(c:Int):=⟨rows[0].f0.toNat,by omega⟩
  have hcl:c<list.length:=by omega
  rw[hcn,ZAZ hcl]
  simp only[Option.bind_some]
  by_cases hg:list[c].guard.op=0
  ·rw[if_pos hg]
   exact⟨_,_,rfl,by omega,by omega,by rw[ZKv];omega,fun _=>⟨ZAT (by decide),fun q h=>absurd h (ZBU (by decide))⟩,ZAQ (by simp;omega)⟩
  ·rw[if_neg hg]
   obtain⟨l,e3,l1,l2⟩:=P.YAb rows (c:Int) (by omega)
   rw[e3]
   simp only[Option.bind_some]
   obtain⟨t,L',e4,t1,t2,t3,t4,t5⟩:=ih (L-1) cols l (by omega) (by omega) (CompOk.more ⟨hc.okC,fun r hr=>hc.okR r (l2 r hr),by omega⟩ (by omega))
   rw[hL1,e4]
   refine⟨_,_,rfl,by omega,by omega,by rw[ZJd];simp only;omega,fun hp=> ?_,fun y hy=> ?_⟩
   rotate_left
   ·cases hy with
    |refl=>show wtL PathBind.wt bs+0≤700;omega
    |br _ b hb=>cases hb
    |els _ z hz h=>rw[List.mem_singleton.1 hz]at h;exact t5 y h
   obtain⟨o1,o2⟩:=t4 hp
   refine⟨.mk _ (fun h=>absurd h (show(1:Int)≠2 by decide)) (fun b hb=>by cases hb) (fun y hy=>by rw[List.mem_singleton.1 hy];exact o1),fun q h=> ?_⟩
   cases h with
   |here _ h=>exact absurd h (show(1:Int)≠2 by decide)
   |br _ b hb=>cases hb
   |els _ y hy _ h=>rw[List.mem_singleton.1 hy]at h;exact o2 q h
 ·rw[e]
  simp only[Option.bind_some]
  rw[if_neg (by omega)]
  obtain⟨a,e2,ha,hao⟩:=P.YAq h hT hc (by omega) h0r pick hk e ho
  rw[e2]
  simp only[Option.bind_some]
  have hac:a<cols.length:=by omega
  have h9:cols[a].f0.length≤9:=ZJz (hx.pat a ha hac) hao
  have hty:=hc.okC.ty _ (List.getElem_mem hac)
  rw[ZAZ hac]
  simp only[Option.bind_some]
  rw[if_pos (by omega)]
  obtain⟨cs,e3,c1,c2⟩:=P.YAB h hT hty (by have:=ZBL h.wok (ZAP hty.1);omega) rows a (fun r hr=>by rw[(hc.okR r hr).len];exact hac)
  rw[e3]
  simp only[Option.bind_some]
  have loop:∀(m i:Nat) (out:List Branch) (K:Int),cs.length-i=m→out.length≤i→-1≤K→K<L→(wtL Branch.wt out:Int)≤1000*((L:Int) -1-K)→(cols.Pairwise ZAN→∀b,b∈out→OnceT b.tree∧¬TestedT b.tree cols[a].f0∧∀q,TestedT b.tree q→∃c,c∈cols∧c.f0<+:q)→(∀b,b∈out→ZGE b.tree)→
    ∃(l:List Branch) (K':Int),F.f146 w list pick cols rows (a:Int) cols[a] cs out i K=some (l,K')∧-1≤K'∧K'<L∧(wtL Branch.wt l:Int)≤1000*((L:Int) -1-K')∧(cols.Pairwise ZAN→∀b,b∈l→OnceT b.tree∧¬TestedT b.tree cols[a].f0∧∀q,TestedT b.tree q→∃c,c∈cols∧c.f0<+:q)∧∀b,b∈l→ZGE b.tree:=by
   intro m
   induction m with
   |zero=>
    intro i out K hm ho2 k1 k2 k3 k4 k5
    rw[F.f146.eq_def,if_neg (by omega)]
    exact⟨_,_,rfl,k1,k2,k3,k4,k5⟩
   |succ m ihm=>
    intro i out K hm ho2 k1 k2 k3 k4 k5
    have hi:i<cs.length:=by omega
    rw[F.f146.eq_def,if_pos hi]
    by_cases hK:0≤K
    ·rw[if_pos hK,List.getElem?_eq_getElem hi]
     simp only[Option.bind_eq_bind,Option.bind_some]
     have hb:=c2 _ (List.getElem_mem hi)
     rw[P.Yv h.wok hc.okC (by omega) hac hb]
     simp only[Option.bind_some]
     obtain⟨l,e4,l1,l2⟩:=P.YAr h.wok hc.okC (by omega) hac h9 hb hc.okR (by omega)
     rw[e4]
     simp only[Option.bind_some]
     obtain⟨kn,rfl⟩:∃kn:Nat,K=(kn:Int):=⟨K.toNat,by omega⟩
     have hno:=ZEG h.wok hc.okC hac h9 hb
     obtain⟨t,L',e5,t1,t2,t3,t4,t5⟩:=ih kn _ l (by omega) (by omega) (CompOk.more ⟨hno,l2,by omega⟩ (by omega))
     rw[e5]
     simp only[Option.bind_some]
     rw[if_pos (by omega)]
     refine ihm (i+1) _ L' (by omega) (by simp;omega) t1 (by omega) ?_ (fun hp b hb2=> ?_) (fun b hb2=> ?_)
     rotate_left 2
     ·rcases List.mem_append.1 hb2 with hb2|hb2
      ·exact k5 b hb2
      ·rw[List.mem_singleton.1 hb2];exact t5
     rotate_left
     ·rcases List.mem_append.1 hb2 with hb2|hb2
      ·exact k4 hp b hb2
      ·rw[List.mem_singleton.1 hb2]
       obtain⟨n1,n2⟩:=ZFX (w:=w) hp hac cs[i]
       obtain⟨o1,o2⟩:=t4 n1
       refine⟨o1,fun h=> ?_,fun q h=> ?_⟩
       ·obtain⟨c,hc,hq⟩:=o2 _ h
        exact(n2 c hc).2 hq
       ·obtain⟨c,hc,hq⟩:=o2 _ h
        obtain⟨⟨d,hd,hd2⟩,_⟩:=n2 c hc
        exact⟨d,hd,hd2.trans hq⟩
     rw[ZKI]
     show((wtL Branch.wt out+(1+t.wt):Nat):Int)≤_
     omega
    ·rw[if_neg hK]
     exact⟨_,_,rfl,k1,k2,k3,k4,k5⟩
  obtain⟨l,K',e4,k1,k2,k3,k4,k5⟩:=loop _ 0 [] ((L:Int) -1) rfl (by simp) (by omega) (by omega) (by simp) (fun _ b hb=>by cases hb) (fun b hb=>by cases hb)
  rw[e4]
  refine⟨_,_,rfl,k1,k2,by rw[ZHn];simp only;omega,fun hp=>⟨.mk _ (fun _=>⟨fun b hb=>(k4 hp b hb).2.1,fun y hy=>by cases hy⟩) (fun b hb=>(k4 hp b hb).1) (fun y hy=>by cases hy),fun q h=> ?_⟩,fun y hy=> ?_⟩
  rotate_left
  ·cases hy with
   |refl=>show wtL PathBind.wt []+cols[a].f0.length≤700;rw[ZL4];omega
   |br _ b hb h=>exact k5 b hb y h
   |els _ z hz=>cases hz
  cases h with
  |here _ h=>exact⟨cols[a],List.getElem_mem hac,List.prefix_refl _⟩
  |br _ b hb _ h=>exact(k4 hp b hb).2.2 q h
  |els _ y hy=>cases hy
theorem P.YAl {w:List Data}{t:Ty}(list:List Clause){i:Nat}(hi:i<list.length)(hi2:list.length≤8)(v:List Pattern)(hv:∀q,q∈v→ZF1 w 10 t q∧q.wt≤59):
  ∀(m k:Nat) (out:List ZA),v.length-k=m→out.length+m≤4000→(∀r,r∈out→RowOk w [⟨[],t⟩] list.length 60 r)→
   ∃l,F.f115 list i v out k=some l∧l.length=out.length+m∧∀r,r∈l→RowOk w [⟨[],t⟩] list.length 60 r
 |0,k,out,hm,ho,hr=>by rw[F.f115,if_neg (by omega)];exact⟨_,rfl,by omega,hr⟩
 |m+1,k,out,hm,ho,hr=>by
  have hk:k<v.length:=by omega
  obtain⟨s1,s2⟩:=hv _ (List.getElem_mem hk)
  obtain⟨z,q,e,c1,c2,_,c4⟩:=P.Yn (w:=w) (t:=t) (k:=0) ⟨(i:Int),[],[]⟩ [] (by simp) (by omega) v[k] (.inr s1) (by simp;omega) (by simp)
  rw[F.f115,if_pos hk,List.getElem?_eq_getElem hk]
  simp only[Option.bind_eq_bind,Option.bind_some]
  rw[e]
  simp only[Option.bind_some]
  rw[if_pos (by omega)]
  obtain⟨l,e2,l1,l2⟩:=P.YAl list hi hi2 v hv m (k+1) (out++[⟨(i:Int),[q],z⟩]) (by omega) (by simp;omega) (fun r h=>by
   rcases List.mem_append.1 h with h|h
   ·exact hr r h
   ·rw[List.mem_singleton.1 h]
    refine⟨by simp,by simp;omega,rfl,fun j h h'=> ?_,by simp at c2 ⊢;omega,c4⟩
    have:j=0:=by simp at h;omega
    subst this
    exact c1)
  exact⟨l,e2,by simp at l1;omega,l2⟩
theorem P.YAm {w:List Data}{t:Ty}(list:List Clause)(hl:list.length≤8)(hp:∀c,c∈list→ZAX w 10 t c.pat∧c.pat.wt≤59):
  ∀(m i:Nat) (out:List ZA),list.length-i=m→out.length+m*401≤4000→(∀r,r∈out→RowOk w [⟨[],t⟩] list.length 60 r)→
   ∃l,F.f116 list out i=some l∧l.length≤out.length+m*401∧∀r,r∈l→RowOk w [⟨[],t⟩] list.length 60 r
 |0,i,out,hm,ho,hr=>by rw[F.f116,if_neg (by omega)];exact⟨_,rfl,by omega,hr⟩
 |m+1,i,out,hm,ho,hr=>by
  have hi:i<list.length:=by omega
  obtain⟨s1,s2⟩:=hp _ (List.getElem_mem hi)
  obtain⟨v,e,v1,v2⟩:=P.Yo w 10 t list[i].pat s1 (by omega)
  obtain⟨l,e2,l1,l2⟩:=P.YAl (w:=w) (t:=t) list hi hl v (fun q hq=>⟨(v2 q hq).1,by have:=(v2 q hq).2;omega⟩) _ 0 out rfl (by omega) hr
  rw[F.f116,if_pos hi,List.getElem?_eq_getElem hi]
  simp only[Option.bind_eq_bind,Option.bind_some]
  rw[e]
  simp only[Option.bind_some]
  rw[e2]
  simp only[Option.bind_some]
  rw[if_pos (by omega)]
  obtain⟨l',e3,q1,q2⟩:=P.YAm list hl hp m (i+1) l (by omega) (by omega) l2
  exact⟨l',e3,by omega,q2⟩
theorem P.Yx {w:List Data}{t:Ty}(list:List Clause)(pick:Int)(hp:∀c,c∈list→ZAX w 10 t c.pat∧c.pat.wt≤59):
  ∀(m i:Nat),list.length-i=m→F.f147 w t list pick i=some (.ret (⟨0,0,[],[],[],[]⟩,false))∨F.f147 w t list pick i=some (.go ())
 |0,i,hm=>by rw[F.f147,if_neg (by omega)];exact .inr rfl
 |m+1,i,hm=>by
  have hi:i<list.length:=by omega
  obtain⟨s1,s2⟩:=hp _ (List.getElem_mem hi)
  obtain⟨v,e,v1,v2⟩:=P.Yo w 10 t list[i].pat s1 (by omega)
  rw[F.f147,if_pos hi,List.getElem?_eq_getElem hi]
  simp only[Option.bind_eq_bind,Option.bind_some]
  rw[e]
  simp only[Option.bind_some]
  split
  ·exact .inl rfl
  ·exact P.Yx list pick hp m (i+1) (by omega)
theorem P.YAM {w:List Data}{T:List Int}(h:TOk w T)(hT:F.f53 w=some T){t:Ty}(ht:Za w t)(list:List Clause)(hl:list.length≤8)(hp:∀c,c∈list→ZAX w 10 t c.pat∧c.pat.wt≤59)(pick:Int):
  ∃x b,F.f148 w t list pick=some (x,b)∧x.wt+1≤301000∧OnceT x∧ZGE x:=by
 unfold F.f148
 rcases P.Yx (w:=w) (t:=t) list pick hp _ 0 rfl with e|e
 ·rw[e];exact⟨_,_,rfl,by rw[ZA7];omega,ZAT (by decide),ZAQ (by simp)⟩
 ·rw[e]
  simp only[Option.bind_eq_bind,Option.bind_some]
  obtain⟨l,e2,l1,l2⟩:=P.YAm (w:=w) (t:=t) list hl hp _ 0 [] rfl (by simp;omega) (by simp)
  unfold F.f117
  rw[e2]
  simp only[Option.bind_eq_bind,Option.bind_some]
  obtain⟨x,L',e3,x1,x2,x3,x4,x5⟩:=P.YAo h hT list (by omega) pick 301 300 [⟨[],t⟩] l (by omega) (by omega) ⟨⟨by simp,fun c hc=>by rw[List.mem_singleton.1 hc];exact ht,fun c hc=>by rw[List.mem_singleton.1 hc];simp⟩,l2,by simp at l1;omega⟩
  have e3:F.f145 w list pick [⟨[],t⟩] l 300=some (x,L'):=e3
  rw[e3]
  simp only[Option.bind_some]
  split
  ·exact⟨_,_,rfl,by rw[ZA7];omega,ZAT (by decide),ZAQ (by simp)⟩
  ·exact⟨_,_,rfl,by omega,(x4 (List.pairwise_singleton _ _)).1,x5⟩
theorem P.Yd {w:List Data}(hw:ZBE w){T:List Int}(h:TOk w T)(hT:F.f53 w=some T)(t:Ty)(list:List Clause)(hp:∀c,c∈list→c.pat.wt≤1048576)(pick:Int):
  ∃x b,F.f149 w t list pick=some (x,b)∧x.wt+1≤301000∧OnceT x∧ZGE x:=by
 unfold F.f149
 rw[P.YR w hw t list hp]
 simp only[Option.bind_eq_bind,Option.bind_some]
 by_cases hc:ZQK w t list
 ·rw[if_pos (ZL hc)]
  split
  ·exact⟨_,_,rfl,by rw[ZA7];omega,ZAT (by decide),ZAQ (by simp)⟩
  split
  ·exact⟨_,_,rfl,by rw[ZA7];omega,ZAT (by decide),ZAQ (by simp)⟩
  ·obtain⟨x,b,e,hx⟩:=P.YAM h hT hc.1.2 list hc.2.1 (fun c h=>⟨(hc.2.2 c h).1.1,by have:=(hc.2.2 c h).1.2.2;omega⟩) pick
   rw[e]
   exact⟨_,_,rfl,hx⟩
 ·rw[if_neg (by rw[ZH hc];decide)]
  exact⟨_,_,rfl,by rw[ZA7];omega,ZAT (by decide),ZAQ (by simp)⟩
theorem P.YAn {w:List Data}(hw:ZT w){t:Ty}(ht:Za w t):∀(k K:Nat) (z:List Int) (z2:Int) (out:List Clause),k≤5→rok K ⟨z,z2⟩→K+k*21000≤1099511627776→out.length+k≤100→(∀c,c∈out→ZDN w t c.pat)→
  ∃z' z2' l,F.f89 w t z z2 out (k:Int)=some (z',z2',l)∧rok (K+k*21000) ⟨z',z2'⟩∧l.length=out.length+k∧∀c,c∈l→ZDN w t c.pat
 |0,K,z,z2,out,hk,hr,hK,ho,hp=>by
  rw[F.f89,if_neg (by omega)]
  exact⟨_,_,_,rfl,hr.mono (by omega),rfl,hp⟩
 |k+1,K,z,z2,out,hk,hr,hK,ho,hp=>by
  have hw1:IntKind.i64.wrap (((k+1:Nat):Int) -1)=(k:Int):=by rw[ZG (by omega) (by omega)];omega
  obtain⟨c,r',e,h1,h2⟩:=P.YAS hw ht hr (by omega)
  rw[F.f89,if_pos (by omega),e,hw1]
  simp only[Option.bind_eq_bind,Option.bind_some]
  rw[if_pos (by omega)]
  obtain⟨z',z2',l,e2,q1,q2,q3⟩:=P.YAn hw ht k (K+21000) r'.f0 r'.f1 (out++[c]) (by omega) h1 (by omega) (by simp;omega) (fun x h=>by
   rcases List.mem_append.1 h with h|h
   ·exact hp x h
   ·rw[List.mem_singleton.1 h];exact h2)
  exact⟨z',z2',l,e2,q1.mono (by omega),by simp at q2;omega,q3⟩
theorem P.YAv {w:List Data}(hw:ZT w){t:Ty}(ht:Za w t){K:Nat}{r:ZE}(hr:rok K r)(hK:K+106000≤1099511627776):∃l r',F.f90 r w t=some (l,r')∧rok (K+106000) r'∧l.length≤5∧∀c,c∈l→ZDN w t c.pat:=by
 unfold F.f90
 obtain⟨v,r1,e1,h1,hv⟩:=P.num hr (by omega) [3,2,4,5,1,0] (by simp)
 obtain⟨k,rfl,hk⟩:∃k:Nat,v=(k:Int)∧k≤5:=by
  simp at hv
  exact⟨v.toNat,by omega,by omega⟩
 obtain⟨z',z2',l,e2,q1,q2,q3⟩:=P.YAn hw ht k _ r1.f0 r1.f1 [] hk h1 (by omega) (by simp;omega) (by simp)
 rw[e1]
 simp only[Option.bind_eq_bind,Option.bind_some]
 rw[e2]
 exact⟨_,_,rfl,q1.mono (by omega),by simp at q2;simp only;omega,q3⟩
theorem P.Ya (v:Int×ZE):∀(k:Nat) (out:List Clause),out.length+k=9→(∀c,c∈out→c.pat.wt≤1000010)→∃l,F.f94 v out=some l∧l.length=9∧∀c,c∈l→c.pat.wt≤1000010
 |0,out,h,hp=>by rw[F.f94,if_neg (by omega)];exact⟨_,rfl,by omega,hp⟩
 |k+1,out,h,hp=>by
  rw[F.f94,if_pos (by omega),if_pos (by omega)]
  exact P.Ya v k (out++[⟨⟨1,0,0,0,0,[]⟩,⟨0,0,0⟩⟩]) (by simp;omega) (fun c hc=>by
   rcases List.mem_append.1 hc with hc|hc
   ·exact hp c hc
   ·rw[List.mem_singleton.1 hc];simp only;rw[ZBh];omega)
theorem P.Yb {K:Nat}{r:ZE}(hr:rok K r)(hK:K+5≤1099511627776)(l:List Clause)(hl:l.length≤8)(hp:∀c,c∈l→c.pat.wt≤1000000):∃l' r',F.f95 r l=some (l',r')∧rok (K+5) r'∧l'.length≤9∧∀c,c∈l'→c.pat.wt≤1000010:=by
 have hp':∀c,c∈l→c.pat.wt≤1000010:=fun c h=>by have:=hp c h;omega
 have setOk:∀x:Clause,x.pat.wt≤1000010→∀c,c∈l.set 0 x→c.pat.wt≤1000010:=fun x hx c hc=>by
  rcases List.mem_or_eq_of_mem_set hc with h|h
  ·exact hp' c h
  ·rw[h];exact hx
 unfold F.f95
 rw[if_pos (by omega)]
 obtain⟨v,r1,e1,h1,_⟩:=P.YG hr (by omega) 24
 rw[e1]
 simp only[Option.bind_eq_bind,Option.bind_some]
 split
 ·split
  ·next h0=>
   obtain⟨v2,r2,e2,h2,_⟩:=P.num h1 (by omega) [1,2,3,-1] (by simp)
   obtain⟨v3,r3,e3,h3,_⟩:=P.num h2 (by omega) [0,5,9] (by simp)
   obtain⟨v4,r4,e4,h4,_⟩:=P.num h3 (by omega) [3,10,-1] (by simp)
   rw[e2]
   simp only[Option.bind_some]
   rw[e3]
   simp only[Option.bind_some]
   rw[e4]
   simp only[Option.bind_some]
   rw[List.getElem?_eq_getElem h0]
   exact⟨_,_,rfl,h4.mono (by omega),by simp;omega,setOk _ (by simpa using hp' _ (List.getElem_mem h0))⟩
  ·exact⟨_,_,rfl,h1.mono (by omega),by omega,hp'⟩
 split
 ·split
  ·next h0=>
   have hx:=hp _ (List.getElem_mem h0)
   obtain⟨p2,r2,e2,h2,w2⟩:=P.Yw h1 (by omega) l[0].pat (by omega)
   obtain⟨p3,r3,e3,h3,w3⟩:=P.Yw h2 (by omega) p2 (by omega)
   rw[List.getElem?_eq_getElem h0]
   simp only[Option.bind_some]
   rw[e2]
   simp only[Option.bind_some]
   rw[e3]
   exact⟨_,_,rfl,h3.mono (by omega),by simp;omega,setOk _ (by show p3.wt≤_;omega)⟩
  ·exact⟨_,_,rfl,h1.mono (by omega),by omega,hp'⟩
 split
 ·obtain⟨l',e2,q1,q2⟩:=P.Ya (v,r1) (9-l.length) l (by omega) hp'
  rw[e2]
  exact⟨_,_,rfl,h1.mono (by omega),by omega,q2⟩
 ·exact⟨_,_,rfl,h1.mono (by omega),by omega,hp'⟩
theorem P.YAf {K:Nat}{r:ZE}(hr:rok K r)(hK:K+107000≤1099511627776):∃w t l v r' T,F.f91 r=some (w,t,l,v,r')∧rok (K+107000) r'∧w∈ZAK∧F.f53 w=some T∧TOk w T∧Za w t∧l.length≤5∧(∀c,c∈l→ZDN w t c.pat)∧pv w false 4 t v∧v.wt+1≤256:=by
 obtain⟨w,t,v,r1,T,e1,h1,hw,hT',hT,a1,a2,a3,_,hv,hvw,a4⟩:=P.YAV hr (by omega)
 have ht:Za w t:=by
  refine⟨?_,a3⟩
  rcases a1 with q|⟨q1,q2,q3,q4⟩
  ·exact .inl ⟨q,a4 q⟩
  ·exact .inr ⟨q1,q2,by omega,q4⟩
 obtain⟨l,r2,e2,h2,l1,l2⟩:=P.YAv hT.wok ht h1 (by omega)
 unfold F.f91
 rw[e1]
 simp only[Option.bind_eq_bind,Option.bind_some]
 rw[e2]
 exact⟨w,t,l,v,r2,T,rfl,h2.mono (by omega),hw,hT',hT,ht,l1,l2,hv,hvw⟩
theorem P.YM (code:List Int)(hc:ZBP code):∃w t l T,F.f96 code=some (w,t,l)∧w∈ZAK∧F.f53 w=some T∧TOk w T∧Za w t∧l.length≤9∧∀c,c∈l→c.pat.wt≤1000010:=by
 have key:∀r,rok 0 r→∃w t l T,((F.f91 r)>>=fun v=>
   if 0<v.2.2.1.length then
    (F.f1 v.2.2.2.2 4)>>=fun v9=>
    if v9.1=0 then
     (F.f92)>>=fun v13=>
     if v.2.2.1.length+1≤67108864 then
      (F.f95 v9.2 (v.2.2.1++[(⟨v13,(⟨0,0,0⟩:Guard)⟩:Clause)]))>>=fun v16=>
      some (v.1,v.2.1,v16.1)
     else none
    else
     (F.f95 v9.2 v.2.2.1)>>=fun v18=>
     some (v.1,v.2.1,v18.1)
   else
    (F.f95 v.2.2.2.2 v.2.2.1)>>=fun v20=>
    some (v.1,v.2.1,v20.1))=some (w,t,l)∧w∈ZAK∧F.f53 w=some T∧TOk w T∧Za w t∧l.length≤9∧∀c,c∈l→c.pat.wt≤1000010:=by
  intro r hr
  obtain⟨w,t,l,v,r1,T,e1,h1,hw,hT',hT,ht,l1,l2,_⟩:=P.YAf hr (by omega)
  have hlw:∀c,c∈l→c.pat.wt≤1000000:=fun c h=>by have:=(l2 c h).2.2;omega
  rw[e1]
  simp only[Option.bind_eq_bind,Option.bind_some]
  split
  ·obtain⟨v9,r2,e2,h2,_⟩:=P.YG h1 (by omega) 4
   rw[e2]
   simp only[Option.bind_some]
   split
   ·rw[P.YAG]
    simp only[Option.bind_some]
    rw[if_pos (by omega)]
    obtain⟨l',r3,e3,_,q1,q2⟩:=P.Yb h2 (by omega) (l++[⟨anyP0,⟨0,0,0⟩⟩]) (by simp;omega) (fun c h=>by
     rcases List.mem_append.1 h with h|h
     ·exact hlw c h
     ·rw[List.mem_singleton.1 h];simp only;rw[ZHb];omega)
    rw[e3]
    exact⟨_,_,_,T,rfl,hw,hT',hT,ht,q1,q2⟩
   ·obtain⟨l',r3,e3,_,q1,q2⟩:=P.Yb h2 (by omega) l (by omega) hlw
    rw[e3]
    exact⟨_,_,_,T,rfl,hw,hT',hT,ht,q1,q2⟩
  ·obtain⟨l',r3,e3,_,q1,q2⟩:=P.Yb h1 (by omega) l (by omega) hlw
   rw[e3]
   exact⟨_,_,_,T,rfl,hw,hT',hT,ht,q1,q2⟩
 unfold F.f96
 split
 ·rw[if_pos (by omega)];exact key _ (ZGJ hc)
 ·exact key _ (ZEh hc (by omega))
theorem P.YL (code:List Int)(hc:ZBP code):∃w t l T,F.f97 code=some (w,t,l)∧w∈ZAK∧F.f53 w=some T∧TOk w T∧Za w t∧l.length≤9∧∀c,c∈l→c.pat.wt≤1000010:=by
 obtain⟨w,t,l,T,e,hw,hT',hT,ht,l1,l2⟩:=P.YM code hc
 have key:∀r,rok 0 r→∃l',(if 0<l.length then
   if l.length<8 then
    (F.f1 r 2)>>=fun v12=>
    if v12.1=0 then
     (F.f1 v12.2 (l.length:Int))>>=fun v16=>
     (at? l v16.1)>>=fun x=>
     if l.length+1≤67108864 then
      some (w,t,l++[x])
     else none
    else
     some (w,t,l)
   else
    some (w,t,l)
  else
   some (w,t,l))=some (w,t,l')∧l'.length≤9∧∀c,c∈l'→c.pat.wt≤1000010:=by
  intro r hr
  split
  ·next h0=>
   split
   ·obtain⟨v12,r2,e2,h2,_⟩:=P.YG hr (by omega) 2
    rw[e2]
    simp only[Option.bind_eq_bind,Option.bind_some]
    split
    ·obtain⟨v16,r3,e3,h3,a1,a2,_⟩:=P.YG h2 (by omega) (l.length:Int)
     have a3:=a2 (by omega)
     obtain⟨k,rfl⟩:∃k:Nat,v16=(k:Int):=⟨v16.toNat,by omega⟩
     have hk:k<l.length:=by omega
     rw[e3]
     simp only[Option.bind_some]
     rw[ZAZ hk]
     simp only[Option.bind_some]
     rw[if_pos (by omega)]
     refine⟨_,rfl,by simp;omega,fun c h=> ?_⟩
     rcases List.mem_append.1 h with h|h
     ·exact l2 c h
     ·rw[List.mem_singleton.1 h];exact l2 _ (List.getElem_mem hk)
    ·exact⟨_,rfl,l1,l2⟩
   ·exact⟨_,rfl,l1,l2⟩
  ·exact⟨_,rfl,l1,l2⟩
 unfold F.f97
 rw[e]
 simp only[Option.bind_eq_bind,Option.bind_some]
 split
 ·rw[if_pos (by omega)]
  obtain⟨l',e2,q⟩:=key _ (ZGJ hc)
  exact⟨w,t,l',T,e2,hw,hT',hT,ht,q⟩
 ·obtain⟨l',e2,q⟩:=key _ (ZEh hc (by omega))
  exact⟨w,t,l',T,e2,hw,hT',hT,ht,q⟩
theorem P.YAi (code:List Int)(hc:ZBP code):∃r,F.f98 code=some r∧rok 0 r:=by
 unfold F.f98
 split
 ·rw[if_pos (by omega)];exact⟨_,rfl,ZGJ hc⟩
 ·exact⟨_,rfl,ZEh hc (by omega)⟩
theorem P.YAt (code:List Int)(hc:ZBP code):∃w t l k T,F.f99 code=some (w,t,l,k)∧w∈ZAK∧F.f53 w=some T∧TOk w T∧Za w t∧l.length≤9∧∀c,c∈l→c.pat.wt≤1000010:=by
 obtain⟨w,t,l,T,e,h⟩:=P.YL code hc
 obtain⟨r,e2,hr⟩:=P.YAi code hc
 obtain⟨v,r1,e3,h1,hv⟩:=P.num hr (by omega) [0,1,2,0,1,2,3,-1] (by simp)
 unfold F.f99
 rw[e]
 simp only[Option.bind_eq_bind,Option.bind_some]
 rw[e2]
 simp only[Option.bind_some]
 rw[e3]
 exact⟨w,t,l,v,T,rfl,h⟩
theorem P.YAp (code:List Int)(hc:ZBP code):∃x,F.f150 code=some x∧x.wt+1≤301000∧OnceT x∧ZGE x:=by
 obtain⟨w,t,l,k,T,e,hw,hT',hT,ht,l1,l2⟩:=P.YAt code hc
 obtain⟨x,b,e2,hx⟩:=P.Yd (ZCt hw) hT hT' t l (fun c h=>by have:=l2 c h;omega) k
 unfold F.f150
 rw[e]
 simp only[Option.bind_eq_bind,Option.bind_some]
 rw[e2]
 exact⟨x,rfl,hx⟩
theorem Sub.wt {y x:Tree}(h:Sub y x):y.wt≤x.wt:=by
 induction h with
 |refl=>exact Nat.le_refl _
 |br x b hb h ih=>have:=x.wt_eq;have:=ZAE Branch.wt hb;have:Branch.wt b=b.tree.wt:=rfl;omega
 |els x z hz h ih=>have:=x.wt_eq;have:=ZAE Tree.wt hz;omega
theorem P.YK (list:List (List Int))(path:List Int)(h:∀q,q∈list→q≠path):∀(m i:Nat),list.length-i=m→F.f161 list path i=some (.go ())
 |0,i,hm=>by rw[F.f161,if_neg (by omega)]
 |m+1,i,hm=>by
  have hi:i<list.length:=by omega
  rw[F.f161,if_pos hi,List.getElem?_eq_getElem hi]
  simp only[Option.bind_eq_bind,Option.bind_some]
  rw[P.YU,ZH (h _ (List.getElem_mem hi))]
  simp only[Option.bind_some]
  rw[if_neg (by decide)]
  exact P.YK list path h m (i+1) (by omega)
theorem P.Yt (list:List (List Int))(path:List Int)(h:∀q,q∈list→q≠path):F.f162 list path=some false:=by
 unfold F.f162
 rw[P.YK list path h _ 0 rfl]
 rfl
theorem ZCG {α:Type}{a:List α}{f:α→Option Bool}{L:Nat→Option (Lo Bool Unit)}(hL:∀i,L i=if i<a.length then a[i]? >>=fun x=>f x>>=fun v=>if v=true then L (i+1)else some (.ret false)else some (.go ()))
  (h:∀x,x∈a→f x=some true):∀(m i:Nat),a.length-i=m→L i=some (.go ())
 |0,i,hm=>by rw[hL,if_neg (by omega)]
 |m+1,i,hm=>by
  have hi:i<a.length:=by omega
  rw[hL,if_pos hi,List.getElem?_eq_getElem hi]
  simp only[Option.bind_eq_bind,Option.bind_some]
  rw[h _ (List.getElem_mem hi)]
  simp only[Option.bind_some]
  rw[if_pos True.intro]
  exact ZCG hL h m (i+1) (by omega)
theorem P.Yu (x:Tree):OnceT x→∀seen:List (List Int),seen.length+x.wt+1≤67108864→(∀q,q∈seen→¬TestedT x q)→F.f163 x seen=some true:=by
 induction x using Tree.ind with
 |_ x ihb ihe=>
  intro ho seen hw hs
  have hw2:=x.wt_eq
  cases ho with
  |mk _ h1 h2 h3=>
  have hbw:∀b,b∈x.branches→1+b.tree.wt≤x.wt:=fun b hb=>by have:=ZAE Branch.wt hb;have:Branch.wt b=b.tree.wt:=rfl;omega
  have hew:∀y,y∈x.els→1+y.wt≤x.wt:=fun y hy=>by have:=ZAE Tree.wt hy;omega
  rw[F.f163]
  by_cases h:x.op=2
  ·rw[if_pos h,P.Yt seen x.path (fun q hq e=>hs q hq (e▸TestedT.here x h))]
   simp only[Option.bind_eq_bind,Option.bind_some]
   obtain⟨n1,n2⟩:=h1 h
   have hs':∀(y:Tree),(∀q,TestedT y q→TestedT x q)→¬TestedT y x.path→∀q,q∈seen++[x.path]→¬TestedT y q:=fun y hy hn q hq ht=>by
    rcases List.mem_append.1 hq with hq|hq
    ·exact hs q hq (hy q ht)
    ·rw[List.mem_singleton.1 hq]at ht;exact hn ht
   rw[if_neg (by decide),if_pos (by omega),if_pos (by omega),
    ZCG (L:=F.f164 x seen) (a:=x.branches) (f:=fun b=>F.f163 b.tree (seen++[x.path])) (fun i=>by rw[F.f164]) (fun b hb=>ihb b hb (h2 b hb) _ (by have:=hbw b hb;simp;omega) (hs' _ (fun q hq=>.br x b hb q hq) (n1 b hb))) _ 0 rfl]
   simp only[Option.bind_some]
   rw[ZCG (L:=F.f165 x seen) (a:=x.els) (f:=fun y=>F.f163 y (seen++[x.path])) (fun i=>by rw[F.f165]) (fun y hy=>ihe y hy (h3 y hy) _ (by have:=hew y hy;simp;omega) (hs' _ (fun q hq=>.els x y hy q hq) (n2 y hy))) _ 0 rfl]
   rfl
  ·rw[if_neg h,ZCG (L:=F.f166 x seen) (a:=x.branches) (f:=fun b=>F.f163 b.tree seen) (fun i=>by rw[F.f166]) (fun b hb=>ihb b hb (h2 b hb) _ (by have:=hbw b hb;omega) (fun q hq ht=>hs q hq (.br x b hb q ht))) _ 0 rfl]
   simp only[Option.bind_eq_bind,Option.bind_some]
   rw[ZCG (L:=F.f167 x seen) (a:=x.els) (f:=fun y=>F.f163 y seen) (fun i=>by rw[F.f167]) (fun y hy=>ihe y hy (h3 y hy) _ (by have:=hew y hy;omega) (fun q hq ht=>hs q hq (.els x y hy q ht))) _ 0 rfl]
   rfl
end Go.Vl
