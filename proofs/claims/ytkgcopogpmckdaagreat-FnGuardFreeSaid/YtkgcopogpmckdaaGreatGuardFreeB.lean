/- Plain laws that this one rests on (printed by gen_l.py). -/
import Derived.Test.YtkgcopogpmckdaaGreatGuardFreeB1
set_option linter.all false
set_option maxRecDepth 100000
namespace Go.Vl
open Go Go.RowKit
theorem P.l3Draw {w:List Data}(hw:worldOk w):∀(d:Nat) (t:Ty) (K:Nat) (r:T_spec_l17Rd),typeOk w t→d≤12→rok K r→K+8^d≤1099511627776→
  ∃p r',F.f105 r w t (d:Int)=some (p,r')∧rok (K+8^d) r'∧p.wt+1≤8^d
 |0,t,K,r,ht,hd,hr,hK=>by
  rw[F.f105,if_pos (by omega)]
  exact⟨_,_,rfl,hr.mono (by omega),by rw[wt_nil];simp⟩
 |1,t,K,r,ht,hd,hr,hK=>by
  rw[F.f105,if_pos (by omega)]
  exact⟨_,_,rfl,hr.mono (by omega),by rw[wt_nil];simp⟩
 |d+2,t,K,r,ht,hd,hr,hK=>by
  have hpos:1≤8^d:=Nat.pow_pos (show 0<8 by omega)
  have e8:8^ (d+2)=64*8^d:=by rw[Nat.pow_succ,Nat.pow_succ];omega
  have e7:8^ (d+1)=8*8^d:=by rw[Nat.pow_succ];omega
  have hwr:IntKind.i64.wrap (((d+2:Nat):Int) -1)=((d+1:Nat):Int):=by rw[wrap_in (by omega) (by omega)];omega
  have ih:=fun(a:Ty) (ha:typeOk w a) (K:Nat) (r:T_spec_l17Rd) hr hK=>P.l3Draw hw (d+1) a K r ha (by omega) hr hK
  rw[e8]at hK ⊢
  rw[e7]at ih
  generalize 8^d=q at hpos hK ih ⊢
  rw[F.f105,if_neg (by omega)]
  obtain⟨v1,r1,e1,h1,a1,b1,_⟩:=P.pick hr (by omega) 4
  rw[e1]
  simp only[Option.bind_eq_bind,Option.bind_some]
  split
  ·exact⟨_,_,rfl,h1.mono (by omega),by rw[wt_nil];omega⟩
  obtain⟨v2,r2,e2,h2,a2,b2,_⟩:=P.pick h1 (by omega) 6
  rw[e2]
  simp only[Option.bind_some]
  split
  ·rw[hwr]
   obtain⟨p1,r3,e3,h3,w3⟩:=ih t ht _ r2 h2 (by omega)
   obtain⟨p2,r4,e4,h4,w4⟩:=ih t ht _ r3 h3 (by omega)
   rw[e3]
   simp only[Option.bind_some]
   rw[e4]
   exact⟨_,_,rfl,h4.mono (by omega),by rw[wt_two];show 2+p1.wt+p2.wt+1≤_;omega⟩
  ·split
   ·obtain⟨v3,r3,e3,h3,a3,b3,_⟩:=P.pick h2 (by omega) 10
    obtain⟨v4,r4,e4,h4,a4,b4,_⟩:=P.pick h3 (by omega) (IntKind.i64.wrap (10-v3))
    obtain⟨v5,r5,e5,h5,a5,b5,_⟩:=P.pick h4 (by omega) 2
    rw[e3]
    simp only[Option.bind_some]
    rw[e4]
    simp only[Option.bind_some]
    rw[e5]
    exact⟨_,_,rfl,h5.mono (by omega),by rw[wt_nil];omega⟩
   ·next hn=>
    rw[P.spec_l1Ctors w hw t (tOk_of ht.1)]
    simp only[Option.bind_some]
    split
    ·exact⟨_,_,rfl,h2.mono (by omega),by rw[wt_nil];omega⟩
    ·next hl=>
     obtain⟨v3,r3,e3,h3,a3,b3,_⟩:=P.pick h2 (by omega) ((ctorList w t).length:Int)
     have b3:=b3 (by omega)
     obtain⟨c,hc,hm⟩:=at_mem a3 b3
     rw[e3]
     simp only[Option.bind_some]
     rw[hc]
     simp only[Option.bind_some]
     rw[P.spec_l1Args w hw t (tOk_of ht.1) c hm]
     simp only[Option.bind_some]
     have hal:(argList w t c).length≤3:=by
      have:=(world_ctors hw (tOk_of ht.1) (ctorList_mem hm).1).2 _ (at_ctor hm).2
      unfold argList;rw[List.length_map];exact this.2.1
     have hmul:(argList w t c).length*(8*q)≤3*(8*q):=Nat.mul_le_mul_right _ hal
     obtain⟨z',z32',out',f1,f2,f3⟩:=P.l3DrawKids (x:=c) hwr (fun a ha K r hr hK=>ih a (arg_typeOk hw ht hm a ha) K r hr hK) (argList w t c).length _ r3.f0 r3.f1 [] (Nat.le_refl _) h3 (by omega) (by simp;omega)
     rw[Nat.sub_self]at f1
     rw[f1]
     refine⟨_,_,rfl,f2.mono (by omega),?_⟩
     rw[Pattern.wt_eq]
     simp at f3
     show wtL Pattern.wt out'+1≤_
     omega
theorem P.l3NameKids {p:Pattern}{L:List Int→Int→List Pattern→Nat→Int→Option ((List Int)×Int×(List Pattern)×Int)}
  (hL:∀z z12 out i next,L z z12 out i next=if i<p.kids.length then
   (p.kids[i]?)>>=fun x=>
   (F.f107 (⟨z,z12⟩:T_spec_l17Rd) x next)>>=fun v17=>
   if out.length+1≤67108864 then
    L v17.2.2.f0 v17.2.2.f1 (out++[v17.1]) (i+1) v17.2.1
   else none
  else
   some (z,z12,out,next))
  (ih:∀k,k∈p.kids→∀(n:Int) (K:Nat) (r:T_spec_l17Rd),0≤n→n≤7→rok K r→K+3*(1+k.wt)≤1099511627776→k.wt≤1048576→
   ∃p' n' r',F.f107 r k n=some (p',n',r')∧rok (K+3*(1+k.wt)) r'∧0≤n'∧n'≤7∧p'.wt+1≤2*(1+k.wt)):
  ∀(k K:Nat) (z:List Int) (z12:Int) (out:List Pattern) (next:Int),k≤p.kids.length→rok K ⟨z,z12⟩→K+3*wtL Pattern.wt (p.kids.drop (p.kids.length-k))≤1099511627776→wtL Pattern.wt p.kids≤1048576→out.length+k≤67108864→0≤next→next≤7→
   ∃z' z12' out' next',L z z12 out (p.kids.length-k) next=some (z',z12',out',next')∧rok (K+3*wtL Pattern.wt (p.kids.drop (p.kids.length-k))) ⟨z',z12'⟩∧0≤next'∧next'≤7∧
    wtL Pattern.wt out'≤wtL Pattern.wt out+2*wtL Pattern.wt (p.kids.drop (p.kids.length-k))
 |0,K,z,z12,out,next,hk,hr,hK,hb,ho,n0,n7=>by
  rw[hL,if_neg (by omega)]
  exact⟨z,z12,out,next,rfl,hr.mono (by omega),n0,n7,by omega⟩
 |k+1,K,z,z12,out,next,hk,hr,hK,hb,ho,n0,n7=>by
  have hi:p.kids.length- (k+1)<p.kids.length:=by omega
  have ei:p.kids.length- (k+1)+1=p.kids.length-k:=by omega
  have hd:p.kids.drop (p.kids.length- (k+1))=p.kids[p.kids.length- (k+1)]::p.kids.drop (p.kids.length-k):=by rw[List.drop_eq_getElem_cons hi,ei]
  have hm:=wtL_mem Pattern.wt (List.getElem_mem hi)
  rw[hd,wtL_cons]at hK ⊢
  obtain⟨p',n',r1,e1,h1,q1,q2,q3⟩:=ih _ (List.getElem_mem hi) next K ⟨z,z12⟩ n0 n7 hr (by omega) (by omega)
  obtain⟨z',z12',out',next',f1,f2,f3,f4,f5⟩:=P.l3NameKids hL ih k _ r1.f0 r1.f1 (out++[p']) n' (by omega) h1 (by omega) hb (by simp;omega) q1 q2
  rw[hL,if_pos hi,List.getElem?_eq_getElem hi]
  simp only[Option.bind_eq_bind,Option.bind_some]
  rw[e1]
  simp only[Option.bind_some]
  rw[if_pos (by omega),ei]
  refine⟨z',z12',out',next',f1,f2.mono (by omega),f3,f4,?_⟩
  have:wtL Pattern.wt (out++[p'])=wtL Pattern.wt out+(1+p'.wt):=by simp[wtL];omega
  omega
theorem P.l3Name (p : Pattern) : ∀ (n : Int) (K : Nat) (r : T_spec_l17Rd), 0 ≤ n → n ≤ 7 → rok K r → K + 3 * (1 + p.wt) ≤ 1099511627776 → p.wt ≤ 1048576 →
   ∃p' n' r',F.f107 r p n=some (p',n',r')∧rok (K+3*(1+p.wt)) r'∧0≤n'∧n'≤7∧p'.wt+1≤2*(1+p.wt):=by
 induction p using Pattern.ind with
 |_ p ih=>
  intro n K r n0 n7 hr hK hb
  have hwt:=p.wt_eq
  have hlen:=wtL_len Pattern.wt p.kids
  have same:p.wt+1≤2*(1+p.wt):=by omega
  rw[F.f107]
  split
  ·exact⟨_,_,_,rfl,hr.mono (by omega),n0,n7,same⟩
  split
  ·exact⟨_,_,_,rfl,hr.mono (by omega),n0,n7,same⟩
  split
  ·exact⟨_,_,_,rfl,hr.mono (by omega),n0,n7,same⟩
  have tail:∀(K':Nat) (z':List Int) (z12':Int) (out':List Pattern) (next':Int),rok K' ⟨z',z12'⟩→K'+1≤K+3*(1+p.wt)→0≤next'→next'≤7→wtL Pattern.wt out'≤2*p.wt→
    ∃p' n' r',(if next'≤5 then
     (F.f0 (⟨z',z12'⟩:T_spec_l17Rd) 6).bind fun v24=>
     if v24.1=0 then
      some ((⟨6,0,0,0,next',[(⟨p.op,p.ctor,p.n,p.m,p.var,out'⟩:Pattern)]⟩:Pattern),IntKind.i64.wrap (next'+1),v24.2)
     else
      some ((⟨p.op,p.ctor,p.n,p.m,p.var,out'⟩:Pattern),next',v24.2)
    else
     some ((⟨p.op,p.ctor,p.n,p.m,p.var,out'⟩:Pattern),next',(⟨z',z12'⟩:T_spec_l17Rd)))=some (p',n',r')∧rok (K+3*(1+p.wt)) r'∧0≤n'∧n'≤7∧p'.wt+1≤2*(1+p.wt):=by
   intro K' z' z12' out' next' hr' hK' m0 m7 hout
   have hown:(⟨p.op,p.ctor,p.n,p.m,p.var,out'⟩:Pattern).wt=wtL Pattern.wt out':=by rw[Pattern.wt_eq]
   split
   ·obtain⟨v,r1,e1,h1,a1,b1,_⟩:=P.pick hr' (by omega) 6
    rw[e1]
    simp only[Option.bind_some]
    have hwn:IntKind.i64.wrap (next'+1)=next'+1:=wrap_in (by omega) (by omega)
    rw[hwn]
    split
    ·refine⟨_,_,_,rfl,h1.mono (by omega),by omega,by omega,?_⟩
     rw[wt_one,hown];omega
    ·refine⟨_,_,_,rfl,h1.mono (by omega),by omega,by omega,?_⟩
     rw[hown];omega
   ·refine⟨_,_,_,rfl,hr'.mono (by omega),m0,m7,?_⟩
    rw[hown];omega
  split
  ·obtain⟨v,r1,e1,h1,a1,b1,_⟩:=P.pick hr (by omega) 2
   rw[e1]
   simp only[Option.bind_eq_bind,Option.bind_some]
   have hwn:IntKind.i64.wrap (n+1)=n+1:=wrap_in (by omega) (by omega)
   split
   ·rw[hwn]
    exact⟨_,_,_,rfl,h1.mono (by omega),by omega,by omega,by rw[wt_nil];omega⟩
   ·obtain⟨z',z12',out',next',f1,f2,f3,f4,f5⟩:=P.l3NameKids (p:=p) (L:=F.f108 p n) (fun z z12 out i next=>by rw[F.f108]) ih p.kids.length _ r1.f0 r1.f1 [] n (Nat.le_refl _) h1 (by rw[Nat.sub_self,List.drop_zero];omega) (by omega) (by simp;omega) n0 n7
    rw[Nat.sub_self]at f1;rw[Nat.sub_self,List.drop_zero]at f2 f5
    rw[f1]
    simp only[Option.bind_some]
    simp at f5
    exact tail _ z' z12' out' next' f2 (by omega) f3 f4 (by omega)
  ·obtain⟨z',z12',out',next',f1,f2,f3,f4,f5⟩:=P.l3NameKids (p:=p) (L:=F.f109 p n) (fun z z12 out i next=>by rw[F.f109]) ih p.kids.length _ r.f0 r.f1 [] n (Nat.le_refl _) hr (by rw[Nat.sub_self,List.drop_zero];omega) (by omega) (by simp;omega) n0 n7
   rw[Nat.sub_self]at f1;rw[Nat.sub_self,List.drop_zero]at f2 f5
   rw[f1]
   simp only[Option.bind_eq_bind,Option.bind_some]
   simp at f5
   exact tail _ z' z12' out' next' f2 (by omega) f3 f4 (by omega)
theorem any_ok (w:List Data)(t:Ty):patOk w t ⟨1,0,0,0,0,[]⟩:=by
 have hp:pTypes w t ⟨1,0,0,0,0,[]⟩=[]:=by simp[pTypes]
 refine⟨⟨.inl ⟨rfl,rfl,rfl,rfl,rfl⟩,by rw[hp];rfl,fun i _ h=>by rw[hp]at h;simp at h⟩,⟨fun i _ h=>by rw[hp]at h;simp at h,?_⟩,by rw[wt_nil];omega⟩
 rw[if_neg (by simp)]
 simp[nodV,pVars]
theorem P.l3Some {w:List Data}(hw:worldOk w){t:Ty}(ht:typeOk w t){K:Nat}{r:T_spec_l17Rd}(hr:rok K r)(hK:K+20000≤1099511627776):∃p r',F.f110 r w t=some (p,r')∧rok (K+20000) r'∧patOk w t p:=by
 unfold F.f110
 obtain⟨v,r1,e1,h1,hv⟩:=P.num hr (by omega) [3,2,4,1] (by simp)
 obtain⟨d,rfl,hd⟩:∃d:Nat,v=(d:Int)∧d≤4:=by
  simp at hv
  exact⟨v.toNat,by omega,by omega⟩
 have h8:8^d≤4096:=Nat.le_trans (Nat.pow_le_pow_right (n:=8) (by omega) hd) (by decide)
 obtain⟨p,r2,e2,h2,hp⟩:=P.l3Draw hw d t _ r1 ht (by omega) h1 (by omega)
 obtain⟨q,n,r3,e3,h3,_,_,hq⟩:=P.l3Name p 0 _ r2 (by omega) (by omega) h2 (by omega) (by omega)
 rw[e1]
 simp only[Option.bind_eq_bind,Option.bind_some]
 rw[e2]
 simp only[Option.bind_some]
 rw[e3]
 simp only[Option.bind_some]
 rw[P.spec_l3Is w hw t ht q (by omega)]
 simp only[Option.bind_some]
 by_cases h:patOk w t q
 ·rw[if_pos (dec_of h)]
  exact⟨_,_,rfl,h3.mono (by omega),h⟩
 ·rw[if_neg (by rw[dec_not h];simp)]
  exact⟨_,_,rfl,h3.mono (by omega),any_ok w t⟩
theorem P.l4ClauseVars (v:Pattern×T_spec_l17Rd)(vs:List VarType):∀(k K:Nat) (z:List Int) (z4 z5 z6 z7:Int),k≤vs.length→rok K ⟨z,z4⟩→K+3*k≤1099511627776→
  ∃z' z4' z5' z6' z7',F.f111 v z z4 z5 z6 z7 vs (vs.length-k)=some (z',z4',z5',z6',z7')∧rok (K+3*k) ⟨z',z4'⟩
 |0,K,z,z4,z5,z6,z7,hk,hr,hK=>by
  rw[F.f111,if_neg (by omega)]
  exact⟨z,z4,z5,z6,z7,rfl,hr.mono (by omega)⟩
 |k+1,K,z,z4,z5,z6,z7,hk,hr,hK=>by
  have hi:vs.length- (k+1)<vs.length:=by omega
  have ei:vs.length- (k+1)+1=vs.length-k:=by omega
  rw[F.f111,if_pos hi,List.getElem?_eq_getElem hi]
  simp only[Option.bind_eq_bind,Option.bind_some]
  rw[ei]
  split
  ·obtain⟨v1,r1,e1,h1,_⟩:=P.pick hr (by omega) 2
   rw[e1]
   simp only[Option.bind_some]
   split
   ·obtain⟨v2,r2,e2,h2,_⟩:=P.pick h1 (by omega) 2
    obtain⟨v3,r3,e3,h3,_⟩:=P.pick h2 (by omega) 10
    rw[e2]
    simp only[Option.bind_some]
    rw[e3]
    simp only[Option.bind_some]
    obtain⟨a,b,c,d,e,f1,f2⟩:=P.l4ClauseVars v vs k _ r3.f0 r3.f1 (IntKind.i64.wrap (1+v2)) (vs[vs.length- (k+1)]).var v3 (by omega) h3 (by omega)
    exact⟨a,b,c,d,e,f1,f2.mono (by omega)⟩
   ·obtain⟨a,b,c,d,e,f1,f2⟩:=P.l4ClauseVars v vs k _ r1.f0 r1.f1 z5 z6 z7 (by omega) h1 (by omega)
    exact⟨a,b,c,d,e,f1,f2.mono (by omega)⟩
  ·obtain⟨a,b,c,d,e,f1,f2⟩:=P.l4ClauseVars v vs k _ z z4 z5 z6 z7 (by omega) hr (by omega)
   exact⟨a,b,c,d,e,f1,f2.mono (by omega)⟩
theorem P.l4Clause {w:List Data}(hw:worldOk w){t:Ty}(ht:typeOk w t){K:Nat}{r:T_spec_l17Rd}(hr:rok K r)(hK:K+21000≤1099511627776):∃c r',F.f112 r w t=some (c,r')∧rok (K+21000) r'∧patOk w t c.pat:=by
 unfold F.f112
 obtain⟨p,r1,e1,h1,hp⟩:=P.l3Some hw ht hr (by omega)
 rw[e1]
 simp only[Option.bind_eq_bind,Option.bind_some]
 have hl:=pVars_len w 10 t p
 have hb:=hp.2.2
 rw[P.spec_l3Vars w hw 10 t p [] ht hp.1 (by simp;omega)]
 simp only[Option.bind_some,List.nil_append]
 obtain⟨a,b,c,d,e,f1,f2⟩:=P.l4ClauseVars (p,r1) (pVars w 10 t p) (pVars w 10 t p).length _ r1.f0 r1.f1 0 0 0 (Nat.le_refl _) h1 (by omega)
 rw[Nat.sub_self]at f1
 rw[f1]
 exact⟨_,_,rfl,f2.mono (by omega),hp⟩
theorem P.l3Mutate {K:Nat}{r:T_spec_l17Rd}(hr:rok K r)(hK:K+2≤1099511627776)(p:Pattern)(hp:p.wt≤1048576):∃p' r',F.f113 r p=some (p',r')∧rok (K+2) r'∧p'.wt≤p.wt+1:=by
 have hwt:=p.wt_eq
 have hlen:=wtL_len Pattern.wt p.kids
 have own:∀(a b c d e:Int) (ks:List Pattern),(⟨a,b,c,d,e,ks⟩:Pattern).wt=wtL Pattern.wt ks:=fun a b c d e ks=>by rw[Pattern.wt_eq]
 unfold F.f113
 rw[if_pos (by omega)]
 obtain⟨v,r1,e1,h1,_⟩:=P.pick hr (by omega) 30
 rw[e1]
 simp only[Option.bind_eq_bind,Option.bind_some]
 split
 ·obtain⟨v2,r2,e2,h2,_⟩:=P.num h1 (by omega) [0,7,1,2,5] (by simp)
  rw[e2];exact⟨_,_,rfl,h2,by rw[own];omega⟩
 split
 ·obtain⟨v2,r2,e2,h2,_⟩:=P.num h1 (by omega) [6,-1,1] (by simp)
  rw[e2];exact⟨_,_,rfl,h2,by rw[own];omega⟩
 split
 ·obtain⟨v2,r2,e2,h2,_⟩:=P.num h1 (by omega) [9,-1,1] (by simp)
  rw[e2];exact⟨_,_,rfl,h2,by rw[own];omega⟩
 split
 ·rw[if_pos (by omega)]
  refine⟨_,_,rfl,h1.mono (by omega),?_⟩
  rw[own]
  have:wtL Pattern.wt (p.kids++[⟨2,0,0,0,0,[]⟩])=wtL Pattern.wt p.kids+(1+Pattern.wt ⟨2,0,0,0,0,[]⟩):=by simp[wtL];omega
  rw[this,wt_nil];omega
 split
 ·split
  ·next h0=>
   rw[List.getElem?_eq_getElem h0]
   refine⟨_,_,rfl,h1.mono (by omega),?_⟩
   rw[own]
   have:=wtL_set Pattern.wt p.kids 0 h0 ⟨2,0,0,0,0,[]⟩
   rw[wt_nil]at this
   omega
  ·exact⟨_,_,rfl,h1.mono (by omega),by omega⟩
 split
 ·obtain⟨v2,r2,e2,h2,_⟩:=P.num h1 (by omega) [10,-1,5] (by simp)
  rw[e2];exact⟨_,_,rfl,h2,by rw[own];omega⟩
 ·exact⟨_,_,rfl,h1.mono (by omega),by omega⟩
theorem P.l4MutateFill (v:Int×T_spec_l17Rd):∀(k:Nat) (out:List Clause),out.length+k=9→∃l,F.f114 v out=some l∧∃r,l=out++r
 |0,out,h=>by rw[F.f114,if_neg (by omega)];exact⟨_,rfl,[],by simp⟩
 |k+1,out,h=>by
  rw[F.f114,if_pos (by omega),if_pos (by omega)]
  obtain⟨l,e1,r,rfl⟩:=P.l4MutateFill v k (out++[⟨⟨1,0,0,0,0,[]⟩,⟨0,0,0⟩⟩]) (by simp;omega)
  exact⟨_,e1,_,List.append_assoc _ _ _⟩
theorem P.l4Mutate1 {K:Nat}{r:T_spec_l17Rd}(hr:rok K r)(hK:K+5≤1099511627776)(c:Clause)(hp:c.pat.wt≤1000000):∃l r' x,F.f115 r [c]=some (l,r')∧l[0]? =some x∧x.pat.wt≤1048576:=by
 unfold F.f115
 rw[if_pos (by simp)]
 obtain⟨v,r1,e1,h1,_⟩:=P.pick hr (by omega) 24
 rw[e1]
 simp only[Option.bind_eq_bind,Option.bind_some]
 split
 ·rw[if_pos (by simp)]
  obtain⟨v2,r2,e2,h2,_⟩:=P.num h1 (by omega) [1,2,3,-1] (by simp)
  obtain⟨v3,r3,e3,h3,_⟩:=P.num h2 (by omega) [0,5,9] (by simp)
  obtain⟨v4,r4,e4,h4,_⟩:=P.num h3 (by omega) [3,10,-1] (by simp)
  rw[e2]
  simp only[Option.bind_some]
  rw[e3]
  simp only[Option.bind_some]
  rw[e4]
  simp only[Option.bind_some,List.getElem?_cons_zero]
  exact⟨_,_,_,rfl,rfl,by show c.pat.wt≤_;omega⟩
 split
 ·rw[if_pos (by simp)]
  obtain⟨p2,r2,e2,h2,w2⟩:=P.l3Mutate h1 (by omega) c.pat (by omega)
  obtain⟨p3,r3,e3,h3,w3⟩:=P.l3Mutate h2 (by omega) p2 (by omega)
  simp only[List.getElem?_cons_zero,Option.bind_some]
  rw[e2]
  simp only[Option.bind_some]
  rw[e3]
  exact⟨_,_,_,rfl,rfl,by show p3.wt≤_;omega⟩
 split
 ·obtain⟨l,e2,q,rfl⟩:=P.l4MutateFill (v,r1) 8 [c] (by simp)
  rw[e2]
  exact⟨_,_,_,rfl,rfl,by omega⟩
 ·exact⟨_,_,_,rfl,rfl,by omega⟩
theorem P.DrawClauseValid (code:List Int)(hc:bytesOk code):∃w t c,F.f116 code=some (w,t,c)∧smallW w∧c.pat.wt≤1048576:=by
 have key:∀r,rok 0 r→∃w t c,((F.f104 r)>>=fun v=>
   (F.f112 v.2.2.2 v.1 v.2.1)>>=fun v6=>
   (F.f115 v6.2 [v6.1])>>=fun v8=>
   (v8.1[0]?)>>=fun x=>
   some (v.1,v.2.1,x))=some (w,t,c)∧smallW w∧c.pat.wt≤1048576:=by
  intro r hr
  obtain⟨w,t,v,r1,T,e1,h1,hw,_,hT,a1,a2,a3,_,_,_,a4⟩:=P.l2TypedT hr (by omega)
  have hwo:=hT.wok
  have ht:typeOk w t:=by
   refine⟨?_,a3⟩
   rcases a1 with q|⟨q1,q2,q3,q4⟩
   ·exact .inl ⟨q,a4 q⟩
   ·exact .inr ⟨q1,q2,by omega,q4⟩
  obtain⟨c,r2,e2,h2,hp⟩:=P.l4Clause hwo ht h1 (by omega)
  have:=hp.2.2
  obtain⟨l,r3,x,e3,e4,hx⟩:=P.l4Mutate1 h2 (by omega) c (by omega)
  simp only[Option.bind_eq_bind,e1,e2,e3,e4,Option.bind_some]
  exact⟨_,_,_,rfl,worlds_small hw,hx⟩
 unfold F.f116
 split
 ·rw[if_pos (by omega)];exact key _ (rok_cut hc)
 ·exact key _ (rok_open hc (by omega))
def pcnt :Nat→Pattern→Nat
 |0,_=>1000000000
 |d+1,p=>p.kids.length+(p.kids.map (pcnt d)).sum
theorem pcnt_le :∀(d:Nat) (p:Pattern),pcnt d p<1000000000→p.wt≤pcnt d p
 |0,p,h=>by simp[pcnt]at h
 |d+1,p,h=>by
  rw[Pattern.wt_eq,wtL_eq]
  simp only[pcnt]at h ⊢
  have:∀l:List Pattern,(l.map (pcnt d)).sum<1000000000→(l.map Pattern.wt).sum≤(l.map (pcnt d)).sum:=by
   intro l
   induction l with
   |nil=>simp
   |cons x r ih=>
    intro hh
    simp only[List.map_cons,List.sum_cons]at hh ⊢
    have:=pcnt_le d x (by omega)
    have:=ih (by omega)
    omega
  have:=this p.kids (by omega)
  omega
def headOk :Option (List Clause×Bool)→Bool
 |some (c::_,_)=>decide (pcnt 12 c.pat≤100)
 |_=>false
theorem head_of {o:Option (List Clause×Bool)}(h:headOk o=true):∃l b c,o=some (l,b)∧l[0]? =some c∧c.pat.wt≤1048576:=by
 match o,h with
 |some (c::r,b),h=>
  have:=of_decide_eq_true (show decide (pcnt 12 c.pat≤100)=true from h)
  have h2:=pcnt_le 12 c.pat (by omega)
  exact⟨_,_,_,rfl,rfl,by omega⟩
theorem P.patternSame_refl (x:Pattern):F.f190 x x=some true:=by
 induction x using Pattern.ind with
 |_ x ih=>
  rw[F.f190,if_pos rfl,if_pos rfl,if_pos rfl,if_pos rfl,if_pos rfl,F.f191,if_pos rfl]
  have key:∀k,k≤x.kids.length→F.f192 x.kids x.kids (x.kids.length-k)=some (.go ()):=by
   intro k
   induction k with
   |zero=>intro _;rw[F.f192,if_neg (by omega)]
   |succ k ih2=>
    intro hk
    have hi:x.kids.length- (k+1)<x.kids.length:=by omega
    have ei:x.kids.length- (k+1)+1=x.kids.length-k:=by omega
    rw[F.f192,if_pos hi,List.getElem?_eq_getElem hi]
    simp only[Option.bind_eq_bind,Option.bind_some]
    rw[ih _ (List.getElem_mem hi)]
    simp only[Option.bind_some]
    simp only[if_true]
    rw[ei]
    exact ih2 (by omega)
  have:=key x.kids.length (Nat.le_refl _)
  rw[Nat.sub_self]at this
  rw[this]
  rfl
theorem P.clausesSame_refl (c:Clause):F.f196 [c] [c]=some true:=by
 unfold F.f196 F.f195
 rw[if_pos rfl,F.f194,if_pos (by simp)]
 simp only[List.getElem?_cons_zero,Option.bind_eq_bind,Option.bind_some]
 unfold F.f193
 rw[P.patternSame_refl]
 simp only[Option.bind_eq_bind,Option.bind_some,if_true]
 rw[dec_of ⟨rfl,rfl,rfl⟩]
 simp only[if_true]
 rw[F.f194,if_neg (by simp)]
 rfl
def Tree.nodes :Tree→Nat
 |⟨_,_,_,_,branches,els⟩=>1+(branches.attach.map fun⟨b,_⟩=>Tree.nodes b.tree).sum+(els.attach.map fun⟨k,_⟩=>Tree.nodes k).sum
termination_by t=>SizeOf.sizeOf t
decreasing_by
 ·rename_i h
  have:=List.sizeOf_lt_of_mem h
  cases b
  simp at this ⊢
  omega
 ·rename_i h
  have:=List.sizeOf_lt_of_mem h
  simp
  omega
def rightT :Nat→Tree→Prop
 |0,_=>False
 |n+1,x=>(0≤x.op∧x.op≤2∧x.els.length≤1∧x.branches.length≤10)∧(∀b,b∈x.branches→rightT n b.tree)∧∀y,y∈x.els→rightT n y
def right (x:Tree):Prop:=rightT x.nodes x
end Go.Vl
