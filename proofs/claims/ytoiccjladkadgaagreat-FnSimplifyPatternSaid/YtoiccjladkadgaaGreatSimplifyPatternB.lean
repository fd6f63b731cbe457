/- A part of the proof. -/
import Derived.Test.YtoiccjladkadgaaGreatSimplifyPatternB1
set_option linter.all false
set_option maxRecDepth 100000
namespace Go.Vl
open Go Go.RowKit
open Go.IntKind (i64)
theorem P.YR (w:List Data)(hw:ZO w):∀(d:Nat) (t:Ty) (p:Pattern),Zc w t->ZN w d t p->ZBy w d t p->p.wt<=1048576->∃q,F.f168 w t p=some q/\F.f152 w t p=some q/\ZHE w d t p q
 |0,t,p,ht,hs,hl,hp=>hs.elim
 |d+1,t,p,ht,hs,hl,hp=>by
  obtain⟨qs,hql,hq⟩:=P.Yz w hw d (P.YR w hw d) t p ht hs hl hp
  have hs':=hs
  obtain⟨ho,hlen,hk⟩:=hs'
  have tok:=ZAA ht.1
  have hwt:=p.wt_eq
  have hkl:=ZAb Pattern.wt p.kids
  obtain⟨ts,hts,hte⟩:=P.YAC w hw t tok p
  have e:=hte ho
  subst e
  have hkid:F.f136 w t p=some (ZG w t p):=by unfold F.f136;rw[hts];rfl
  have hloop:F.f153 w t p (ZG w t p) [] 0=some qs:=by
   have:=ZCN (qs:=qs) (L:=fun out i=>F.f153 w t p (ZG w t p) out i) (fun out i h=>by
     show F.f153 w t p (ZG w t p) out i=_
     rw[F.f153,if_neg (by omega)])
    (fun out i h ho=>by
     show F.f153 w t p (ZG w t p) out i=_
     have h2:i<p.kids.length:=by omega
     have h1:i<(ZG w t p).length:=by omega
     rw[F.f153,if_pos h2,gQ h2,gQ h1]
     simp only[oE,oS,(hq i h1 h2 h).2.1]
     rw[if_pos ho]) _ 0 [] rfl (by simp;omega)
   simpa using this
  have hwq:wtL Pattern.wt qs<=wtL Pattern.wt p.kids:=ZLm hql fun i h h'=>(hq i (by omega) h' h).2.2.2.2.2
  have hvq:∀i (h2:i<p.kids.length) (h3:i<qs.length),(hv d qs[i]↔hv d p.kids[i]):=fun i h2 h3=>(hq i (by omega) h2 h3).2.2.2.2.1
  have own:=ho
  unfold ZAW at own
  by_cases h3:p.op=3
  ·obtain⟨g1,g2,g3,g4⟩:=ZCw hs h3
   obtain⟨r1,r2,r3,r4⟩:=ZHJ (w:=w) d (t:=t) (n:=p.n) (m:=p.m) g1 g2 g3 g4
   refine⟨Zd p.n p.m,?_,?_,r1,r2,⟨fun h=>absurd h r3,fun h=>absurd h (ZBF hs (.inr h3))⟩,by omega⟩
   ·rw[F.f168,if_pos h3,P.YF];rfl
   ·rw[F.f152,hkid]
    simp only[oE,oS,hloop]
    rw[if_pos h3,P.Yp];rfl
  by_cases h5:p.op=5
  ·have e5:=ZW ho h5
   have hl2:p.kids.length=2:=by rw[hlen,e5];rfl
   have hq2:qs.length=2:=by omega
   have t0:(ZG w t p)[0]'(by rw[e5];simp)=t:=by simp[e5]
   have t1:(ZG w t p)[1]'(by rw[e5];simp)=t:=by simp[e5]
   obtain⟨a1,a2,a3⟩:=hq 0 (by rw[e5];simp) (by omega) (by omega)
   obtain⟨b1,b2,b3⟩:=hq 1 (by rw[e5];simp) (by omega) (by omega)
   rw[t0]at a1 a2 a3
   rw[t1]at b1 b2 b3
   have hab:hv d (p.kids[0]'(by omega))↔hv d (p.kids[1]'(by omega)):=by
    have hl':=hl
    obtain⟨l1,l2⟩:=hl'
    rw[if_pos h5]at l2
    have sv:=l2 (by omega) (by omega)
    have k0:=hk 0 (Nat.zero_le _) (by rw[e5];simp) (by rw[e5];simp) (by omega)
    have k1:=hk 1 (Nat.zero_le _) (by rw[e5];simp) (by rw[e5];simp) (by omega)
    have n0:=l1 0 (Nat.zero_le _) (by rw[e5];simp) (by rw[e5];simp) (by omega)
    have n1:=l1 1 (Nat.zero_le _) (by rw[e5];simp) (by rw[e5];simp) (by omega)
    rw[t0]at k0 n0
    rw[t1]at k1 n1
    constructor
    ·rintro⟨v,h⟩
     obtain⟨x,hx,_⟩:=ZEu k0 n0 h
     exact⟨_,ZEb (sv.2 x hx)⟩
    ·rintro⟨v,h⟩
     obtain⟨x,hx,hxe⟩:=ZEu k1 n1 h
     have h0:(ZM w d t (p.kids[0]'(by omega))).length≠0:=by
      rw[sv.1];intro e;rw[List.eq_nil_of_length_eq_zero e]at hx;cases hx
     obtain⟨y,hy⟩:=List.exists_mem_of_length_pos (Nat.pos_of_ne_zero h0)
     exact⟨_,ZEb hy⟩
   have hqq:qs=[qs[0]'(by omega),qs[1]'(by omega)]:=ZC9 hq2
   have wa:=Zg Pattern.wt (gM (l:=p.kids) (n:=0) (by omega))
   obtain⟨q,c1,c2,c3,c4,c5,c6⟩:=P.YAc w hw d t ht (qs[0]'(by omega)) (qs[1]'(by omega)) a3.1 b3.1 a3.2.1 b3.2.1 (by rw[a3.2.2.1,b3.2.2.1];exact hab) (by have:=a3.2.2.2;omega)
   refine⟨q,?_,?_,c3,c4,?_,?_⟩
   ·rw[F.f168,if_neg h3,if_pos h5,gQ (by omega),gQ (by omega)]
    simp only[oE,oS,a1,b1,c1]
   ·rw[F.f152,hkid]
    simp only[oE,oS,hloop]
    rw[if_neg h3,if_neg (by omega),if_neg (by omega),if_pos h5]
    have z:(⟨p.op,p.ctor,p.n,p.m,p.var,qs⟩:Pattern)=⟨5,0,0,0,0,[qs[0]'(by omega),qs[1]'(by omega)]⟩:=by
     rw[←hqq,h5,show p.ctor=0 by omega,show p.n=0 by omega,show p.m=0 by omega,show p.var=0 by omega]
    rw[z,c2];rfl
   ·rw[c5,a3.2.2.1,Zi]
    constructor
    ·intro h;exact .inr ⟨0,by omega,h⟩
    ·rintro(h|⟨i,hi,h⟩)
     ·omega
     ·match i,hi,h with
      |0,_,h=>exact h
      |1,_,h=>exact hab.2 h
      |k+2,hi,_=>omega
   ·have w0:=a3.2.2.2
    have w1:=b3.2.2.2
    have:wtL Pattern.wt p.kids=2+(p.kids[0]'(by omega)).wt+(p.kids[1]'(by omega)).wt:=by
     have hpp:p.kids=[p.kids[0]'(by omega),p.kids[1]'(by omega)]:=ZC9 hl2
     have e9:wtL Pattern.wt [p.kids[0]'(by omega),p.kids[1]'(by omega)]=2+(p.kids[0]'(by omega)).wt+(p.kids[1]'(by omega)).wt:=by simp[wtL];omega
     rw[←hpp]at e9;exact e9
    omega
  by_cases h6:p.op=6
  ·have e6:ZG w t p=[t]:=by unfold ZG;rw[if_neg (by omega),if_neg h5,if_pos h6]
   have hl1:p.kids.length=1:=by rw[hlen,e6];rfl
   have t0:(ZG w t p)[0]'(by rw[e6];simp)=t:=by simp[e6]
   obtain⟨a1,a2,a3⟩:=hq 0 (by rw[e6];simp) (by omega) (by omega)
   rw[t0]at a1 a2 a3
   have hqq:qs=[qs[0]'(by omega)]:=ZDA (by omega)
   have hvp:hv (d+1) p:=Zi.2 (.inl (.inr h6))
   have z:(⟨p.op,p.ctor,p.n,p.m,p.var,qs⟩:Pattern)=⟨6,0,0,0,p.var,[qs[0]'(by omega)]⟩:=by
    rw[←hqq,h6,show p.ctor=0 by omega,show p.n=0 by omega,show p.m=0 by omega]
   have i1:F.f168 w t p=some (if(qs[0]'(by omega)).op=1 then⟨2,0,0,0,p.var,[]⟩else⟨6,0,0,0,p.var,[qs[0]'(by omega)]⟩):=by
    rw[F.f168,if_neg h3,if_neg h5,if_pos h6,gQ (by omega)]
    simp only[oE,oS,a1,F.f164,decide_eq_true_eq]
    split<;>rfl
   have i2:F.f152 w t p=some (if(qs[0]'(by omega)).op=1 then⟨2,0,0,0,p.var,[]⟩else⟨6,0,0,0,p.var,[qs[0]'(by omega)]⟩):=by
    rw[F.f152,hkid]
    simp only[oE,oS,hloop]
    rw[if_neg h3,if_neg (by omega),if_pos h6,gQ (by omega)]
    simp only[oS,z]
    split<;>rfl
   refine⟨_,i1,i2,?_⟩
   split
   ·obtain⟨x1,x2,x3⟩:=ZBW (w:=w) d (t:=t) (p:=⟨2,0,0,0,p.var,[]⟩) (.inr (.inl ⟨rfl,show 0<=p.var by omega,show p.var<=5 by omega,rfl,rfl,rfl⟩)) (.inr (.inl rfl)) rfl
    exact⟨x1,x2,⟨fun _=>hvp,fun _=>Zi.2 (.inl (.inl rfl))⟩,by omega⟩
   ·have et:ZG w t ⟨6,0,0,0,p.var,[qs[0]'(by omega)]⟩=[t]:=by unfold ZG;rfl
    refine⟨⟨.inr (.inr (.inr (.inr (.inr ⟨rfl,show 0<=p.var by omega,show p.var<=5 by omega,rfl,rfl,rfl⟩)))),by rw[et];rfl,fun i _ _ h1 h2=> ?_⟩,⟨fun i hi=> ?_,fun h=>absurd (show(6:Int)=5 from h) (by omega)⟩,⟨fun _=>hvp,fun _=>Zi.2 (.inl (.inr rfl))⟩,?_⟩
    ·match i,h1,h2 with
     |0,h1,h2=>exact a3.1
     |k+1,h1,h2=>exact absurd (show k+1<1 from h2) (by omega)
    ·match i,hi with
     |0,_=>exact a3.2.1
     |k+1,hi=>exact absurd (show k+1<1 from hi) (by omega)
    ·rw[ZLl]
     have:=a3.2.2.2
     have:=Zg Pattern.wt (gM (l:=p.kids) (n:=0) (by omega))
     omega
  by_cases h4:p.op=4
  ·have e4:ZG w t p=ZI w t p.ctor:=by unfold ZG;rw[if_pos h4]
   have hct:p.ctor∈ZJ w t:=by rcases own with h|h|h|h|h|h<;>first|exact h.2.2.2.2|omega
   have z:(⟨p.op,p.ctor,p.n,p.m,p.var,qs⟩:Pattern)=⟨4,p.ctor,0,0,0,qs⟩:=by
    rw[h4,show p.n=0 by omega,show p.m=0 by omega,show p.var=0 by omega]
   have hloop2:F.f169 w t p (ZI w t p.ctor) [] 0=some qs:=by
    have:=ZCN (qs:=qs) (L:=fun out i=>F.f169 w t p (ZI w t p.ctor) out i) (fun out i h=>by
      show F.f169 w t p (ZI w t p.ctor) out i=_
      rw[F.f169,if_neg (by rw[←e4];omega)])
     (fun out i h ho=>by
      show F.f169 w t p (ZI w t p.ctor) out i=_
      have h2:i<p.kids.length:=by omega
      have h1:i<(ZG w t p).length:=by omega
      have hqi:=(hq i h1 h2 h).1
      rw[F.f169,←e4,if_pos h1,gQ h2,gQ h1]
      simp only[oE,oS,hqi]
      rw[if_pos ho]) _ 0 [] rfl (by simp;omega)
    simpa using this
   have i1:F.f168 w t p=some (if(ZJ w t).length=1/\dec (ZAM qs)=true then ZA9 else⟨4,p.ctor,0,0,0,qs⟩):=by
    rw[F.f168,if_neg h3,if_neg h5,if_neg h6,if_pos h4,P.YC w hw t tok _ hct]
    simp only[oE,oS,hloop2,P.YB w hw t tok,P.YA,F.f160]
    by_cases l1:(ZJ w t).length=1
    ·by_cases wq:ZAM qs
     ·rw[if_pos l1,if_pos (ZH wq),if_pos ⟨l1,ZH wq⟩];rfl
     ·rw[if_pos l1,if_neg (by rw[ZE wq];simp),if_neg fun h=>wq (Zs.1 h.2)]
    ·rw[if_neg l1,if_neg fun h=>l1 h.1]
   have i2:F.f152 w t p=some (if(ZJ w t).length=1/\dec (ZAM qs)=true then ZA9 else⟨4,p.ctor,0,0,0,qs⟩):=by
    rw[F.f152,hkid]
    simp only[oE,oS,hloop]
    rw[if_neg h3,if_pos h4,P.YK]
    simp only[oS,P.YG w hw t tok,F.f137,z]
    by_cases wq:ZAM qs
    ·rw[if_pos (ZH wq)]
     by_cases l1:(ZJ w t).length=1
     ·rw[if_pos l1,if_pos ⟨l1,ZH wq⟩];rfl
     ·rw[if_neg l1,if_neg fun h=>l1 h.1]
    ·rw[if_neg (by rw[ZE wq];simp),if_neg fun h=>wq (Zs.1 h.2)]
   refine⟨_,i1,i2,?_⟩
   split
   ·next hc=>
    obtain⟨x1,x2,x3⟩:=ZDn (w:=w) d (t:=t)
    refine⟨x1,x2,⟨fun h=>absurd h (ZBF x1 (.inl rfl)),fun h=> ?_⟩,by omega⟩
    rcases Zi.1 h with q|⟨i,hi,q⟩
    ·omega
    ·have:=(hvq i hi (by omega)).2 q
     exact absurd this (ZBF (hq i (by omega) hi (by omega)).2.2.1 (.inl (Zs.1 hc.2 i (by omega))))
   ·have et:ZG w t ⟨4,p.ctor,0,0,0,qs⟩=ZG w t p:=by rw[e4];unfold ZG;rfl
    refine⟨⟨.inr (.inr (.inr (.inl ⟨rfl,rfl,rfl,rfl,hct⟩))),by rw[et];show qs.length=_;omega,fun i _ _ h1 h2=> ?_⟩,⟨fun i hi=> ?_,fun h=>absurd (show(4:Int)=5 from h) (by omega)⟩,?_,?_⟩
    ·have h2':i<qs.length:=h2
     have:=(hq i (by omega) (by omega) h2').2.2.1
     simp only[et]
     exact this
    ·have h2':i<qs.length:=hi
     exact(hq i (by omega) (by omega) h2').2.2.2.1
    ·rw[Zi,Zi]
     constructor
     ·rintro(h|⟨i,hi,h⟩)
      ·simp at h
      ·have h2':i<qs.length:=hi
       exact .inr ⟨i,by omega,(hvq i (by omega) h2').1 h⟩
     ·rintro(h|⟨i,hi,h⟩)
      ·omega
      ·exact .inr ⟨i,show i<qs.length by omega,(hvq i hi (by omega)).2 h⟩
    ·rw[Pattern.wt_eq,hwt];exact hwq
  ·have h12:p.op=1∨p.op=2:=by omega
   have e0:ZG w t p=[]:=by unfold ZG;rw[if_neg h4,if_neg h5,if_neg h6]
   have hk0:p.kids=[]:=List.eq_nil_of_length_eq_zero (by rw[hlen,e0];rfl)
   have hq0:qs=[]:=List.eq_nil_of_length_eq_zero (by rw[hql,hk0];rfl)
   obtain⟨x1,x2,x3⟩:=ZBW (w:=w) d ho (by omega) hk0
   refine⟨p,?_,?_,x1,x2,Iff.rfl,Nat.le_refl _⟩
   ·rw[F.f168,if_neg h3,if_neg h5,if_neg h6,if_neg h4]
   ·rw[F.f152,hkid]
    simp only[oE,oS,hloop]
    rw[if_neg h3,if_neg h4,if_neg h6,if_neg h5,show qs=p.kids by rw[hq0,hk0],ZGO]
theorem P.YAB {w:List Data}{d e:Nat}{as:List Ty}{depth x:Int}(hd:i64.wrap (depth-1)=(d:Int))
  (ih:∀a,a∈as->∀K r,rok K r->K+e<=1099511627776->∃p r',F.f59 r w a (d:Int)=some (p,r')/\rok (K+e) r'/\p.wt+1<=e):
  ∀(k K:Nat) (z:List Int) (z32:Int) (out:List Pattern),k<=as.length->rok K ⟨z,z32⟩->K+k*e<=1099511627776->out.length+k<=67108864->
   ∃z' z32' out',F.f60 w depth x as z z32 out (as.length-k)=some (z',z32',out')/\rok (K+k*e) ⟨z',z32'⟩/\wtL Pattern.wt out'<=wtL Pattern.wt out+k*e
 |0,K,z,z32,out,hk,hr,hK,ho=>by
  rw[F.f60,if_neg (by omega)]
  exact⟨z,z32,out,rfl,hr.mono (by omega),by omega⟩
 |k+1,K,z,z32,out,hk,hr,hK,ho=>by
  have hi:as.length- (k+1)<as.length:=by omega
  rw[Nat.add_mul,Nat.one_mul]at hK
  obtain⟨p,r1,e1,h1,h2⟩:=ih _ (gM hi) K ⟨z,z32⟩ hr (by omega)
  obtain⟨z',z32',out',f1,f2,f3⟩:=P.YAB hd ih k (K+e) r1.f0 r1.f1 (out++[p]) (by omega) h1 (by omega) (by simp;omega)
  rw[F.f60,if_pos hi,gQ hi]
  simp only[oE,oS]
  rw[hd,e1]
  simp only[oS]
  rw[if_pos (by omega)]
  have ei:as.length- (k+1)+1=as.length-k:=by omega
  rw[ei]
  refine⟨z',z32',out',f1,f2.mono (by rw[Nat.add_mul];omega),?_⟩
  have:wtL Pattern.wt (out++[p])=wtL Pattern.wt out+(1+p.wt):=by simp[wtL];omega
  rw[Nat.add_mul];omega
theorem P.YAp {w:List Data}(hw:ZO w):∀(d:Nat) (t:Ty) (K:Nat) (r:ZD),Zc w t->d<=12->rok K r->K+8^d<=1099511627776->
  ∃p r',F.f59 r w t (d:Int)=some (p,r')/\rok (K+8^d) r'/\p.wt+1<=8^d
 |0,t,K,r,ht,hd,hr,hK=>by
  rw[F.f59,if_pos (by omega)]
  exact⟨_,_,rfl,hr.mono (by omega),by rw[ZBd];simp⟩
 |1,t,K,r,ht,hd,hr,hK=>by
  rw[F.f59,if_pos (by omega)]
  exact⟨_,_,rfl,hr.mono (by omega),by rw[ZBd];simp⟩
 |d+2,t,K,r,ht,hd,hr,hK=>by
  have hpos:1<=8^d:=Nat.pow_pos (show 0<8 by omega)
  have e8:8^ (d+2)=64*8^d:=by rw[Nat.pow_succ,Nat.pow_succ];omega
  have e7:8^ (d+1)=8*8^d:=by rw[Nat.pow_succ];omega
  have hwr:i64.wrap (((d+2:Nat):Int) -1)=((d+1:Nat):Int):=by rw[ZF (by omega) (by omega)];omega
  have ih:=fun(a:Ty) (ha:Zc w a) (K:Nat) (r:ZD) hr hK=>P.YAp hw (d+1) a K r ha (by omega) hr hK
  rw[e8]at hK ⊢
  rw[e7]at ih
  generalize 8^d=q at hpos hK ih ⊢
  rw[F.f59,if_neg (by omega)]
  obtain⟨v1,r1,e1,h1,a1,b1,_⟩:=P.Yg hr (by omega) 4
  rw[e1]
  simp only[oE,oS]
  split
  ·exact⟨_,_,rfl,h1.mono (by omega),by rw[ZBd];omega⟩
  obtain⟨v2,r2,e2,h2,a2,b2,_⟩:=P.Yg h1 (by omega) 6
  rw[e2]
  simp only[oS]
  split
  ·rw[hwr]
   obtain⟨p1,r3,e3,h3,w3⟩:=ih t ht _ r2 h2 (by omega)
   obtain⟨p2,r4,e4,h4,w4⟩:=ih t ht _ r3 h3 (by omega)
   rw[e3]
   simp only[oS]
   rw[e4]
   exact⟨_,_,rfl,h4.mono (by omega),by rw[ZG7];show 2+p1.wt+p2.wt+1<=_;omega⟩
  ·split
   ·obtain⟨v3,r3,e3,h3,a3,b3,_⟩:=P.Yg h2 (by omega) 10
    obtain⟨v4,r4,e4,h4,a4,b4,_⟩:=P.Yg h3 (by omega) (i64.wrap (10-v3))
    obtain⟨v5,r5,e5,h5,a5,b5,_⟩:=P.Yg h4 (by omega) 2
    rw[e3]
    simp only[oS]
    rw[e4]
    simp only[oS]
    rw[e5]
    exact⟨_,_,rfl,h5.mono (by omega),by rw[ZBd];omega⟩
   ·next hn=>
    rw[P.YB w hw t (ZAA ht.1)]
    simp only[oS]
    split
    ·exact⟨_,_,rfl,h2.mono (by omega),by rw[ZBd];omega⟩
    ·next hl=>
     obtain⟨v3,r3,e3,h3,a3,b3,_⟩:=P.Yg h2 (by omega) ((ZJ w t).length:Int)
     have b3:=b3 (by omega)
     obtain⟨c,hc,hm⟩:=ZET a3 b3
     rw[e3]
     simp only[oS]
     rw[hc]
     simp only[oS]
     rw[P.YC w hw t (ZAA ht.1) c hm]
     simp only[oS]
     have hal:(ZI w t c).length<=3:=by
      have:=(Zk hw (ZAA ht.1) (ZT hm).1).2 _ (ZBL hm).2
      unfold ZI;rw[List.length_map];exact this.2.1
     have hmul:(ZI w t c).length*(8*q)<=3*(8*q):=Nat.mul_le_mul_right _ hal
     obtain⟨z',z32',out',f1,f2,f3⟩:=P.YAB (x:=c) hwr (fun a ha K r hr hK=>ih a (ZEV hw ht hm a ha) K r hr hK) (ZI w t c).length _ r3.f0 r3.f1 [] (Nat.le_refl _) h3 (by omega) (by simp;omega)
     rw[Nat.sub_self]at f1
     rw[f1]
     refine⟨_,_,rfl,f2.mono (by omega),?_⟩
     rw[Pattern.wt_eq]
     simp at f3
     show wtL Pattern.wt out'+1<=_
     omega
theorem P.Yh {p:Pattern}{L:List Int->Int->List Pattern->Nat->Int->Option ((List Int)×Int×(List Pattern)×Int)}
  (hL:∀z z12 out i next,L z z12 out i next=if i<p.kids.length then
   (p.kids[i]?)>>=fun x=>
   (F.f61 (⟨z,z12⟩:ZD) x next)>>=fun v17=>
   if out.length+1<=67108864 then
    L v17.2.2.f0 v17.2.2.f1 (out++[v17.1]) (i+1) v17.2.1
   else none
  else
   some (z,z12,out,next))
  (ih:∀k,k∈p.kids->∀(n:Int) (K:Nat) (r:ZD),0<=n->n<=7->rok K r->K+3*(1+k.wt)<=1099511627776->k.wt<=1048576->
   ∃p' n' r',F.f61 r k n=some (p',n',r')/\rok (K+3*(1+k.wt)) r'/\0<=n'/\n'<=7/\p'.wt+1<=2*(1+k.wt)):
  ∀(k K:Nat) (z:List Int) (z12:Int) (out:List Pattern) (next:Int),k<=p.kids.length->rok K ⟨z,z12⟩->K+3*wtL Pattern.wt (p.kids.drop (p.kids.length-k))<=1099511627776->wtL Pattern.wt p.kids<=1048576->out.length+k<=67108864->0<=next->next<=7->
   ∃z' z12' out' next',L z z12 out (p.kids.length-k) next=some (z',z12',out',next')/\rok (K+3*wtL Pattern.wt (p.kids.drop (p.kids.length-k))) ⟨z',z12'⟩/\0<=next'/\next'<=7/\
    wtL Pattern.wt out'<=wtL Pattern.wt out+2*wtL Pattern.wt (p.kids.drop (p.kids.length-k))
 |0,K,z,z12,out,next,hk,hr,hK,hb,ho,n0,n7=>by
  rw[hL,if_neg (by omega)]
  exact⟨z,z12,out,next,rfl,hr.mono (by omega),n0,n7,by omega⟩
 |k+1,K,z,z12,out,next,hk,hr,hK,hb,ho,n0,n7=>by
  have hi:p.kids.length- (k+1)<p.kids.length:=by omega
  have ei:p.kids.length- (k+1)+1=p.kids.length-k:=by omega
  have hd:p.kids.drop (p.kids.length- (k+1))=p.kids[p.kids.length- (k+1)]::p.kids.drop (p.kids.length-k):=by rw[List.drop_eq_getElem_cons hi,ei]
  have hm:=Zg Pattern.wt (gM hi)
  rw[hd,ZBR]at hK ⊢
  obtain⟨p',n',r1,e1,h1,q1,q2,q3⟩:=ih _ (gM hi) next K ⟨z,z12⟩ n0 n7 hr (by omega) (by omega)
  obtain⟨z',z12',out',next',f1,f2,f3,f4,f5⟩:=P.Yh hL ih k _ r1.f0 r1.f1 (out++[p']) n' (by omega) h1 (by omega) hb (by simp;omega) q1 q2
  rw[hL,if_pos hi,gQ hi]
  simp only[oE,oS]
  rw[e1]
  simp only[oS]
  rw[if_pos (by omega),ei]
  refine⟨z',z12',out',next',f1,f2.mono (by omega),f3,f4,?_⟩
  have:wtL Pattern.wt (out++[p'])=wtL Pattern.wt out+(1+p'.wt):=by simp[wtL];omega
  omega
theorem P.YAy (p : Pattern) : ∀ (n : Int) (K : Nat) (r : ZD), 0 <= n -> n <= 7 -> rok K r -> K + 3 * (1 + p.wt) <= 1099511627776 -> p.wt <= 1048576 ->
   ∃p' n' r',F.f61 r p n=some (p',n',r')/\rok (K+3*(1+p.wt)) r'/\0<=n'/\n'<=7/\p'.wt+1<=2*(1+p.wt):=by
 induction p using Pattern.ind with
 |_ p ih=>
  intro n K r n0 n7 hr hK hb
  have hwt:=p.wt_eq
  have hlen:=ZAb Pattern.wt p.kids
  have same:p.wt+1<=2*(1+p.wt):=by omega
  rw[F.f61]
  split
  ·exact⟨_,_,_,rfl,hr.mono (by omega),n0,n7,same⟩
  split
  ·exact⟨_,_,_,rfl,hr.mono (by omega),n0,n7,same⟩
  split
  ·exact⟨_,_,_,rfl,hr.mono (by omega),n0,n7,same⟩
  have tail:∀(K':Nat) (z':List Int) (z12':Int) (out':List Pattern) (next':Int),rok K' ⟨z',z12'⟩->K'+1<=K+3*(1+p.wt)->0<=next'->next'<=7->wtL Pattern.wt out'<=2*p.wt->
    ∃p' n' r',(if next'<=5 then
     (F.f1 (⟨z',z12'⟩:ZD) 6).bind fun v24=>
     if v24.1=0 then
      some ((⟨6,0,0,0,next',[(⟨p.op,p.ctor,p.n,p.m,p.var,out'⟩:Pattern)]⟩:Pattern),i64.wrap (next'+1),v24.2)
     else
      some ((⟨p.op,p.ctor,p.n,p.m,p.var,out'⟩:Pattern),next',v24.2)
    else
     some ((⟨p.op,p.ctor,p.n,p.m,p.var,out'⟩:Pattern),next',(⟨z',z12'⟩:ZD)))=some (p',n',r')/\rok (K+3*(1+p.wt)) r'/\0<=n'/\n'<=7/\p'.wt+1<=2*(1+p.wt):=by
   intro K' z' z12' out' next' hr' hK' m0 m7 hout
   have hown:(⟨p.op,p.ctor,p.n,p.m,p.var,out'⟩:Pattern).wt=wtL Pattern.wt out':=by rw[Pattern.wt_eq]
   split
   ·obtain⟨v,r1,e1,h1,a1,b1,_⟩:=P.Yg hr' (by omega) 6
    rw[e1]
    simp only[oS]
    have hwn:i64.wrap (next'+1)=next'+1:=ZF (by omega) (by omega)
    rw[hwn]
    split
    ·refine⟨_,_,_,rfl,h1.mono (by omega),by omega,by omega,?_⟩
     rw[ZLl,hown];omega
    ·refine⟨_,_,_,rfl,h1.mono (by omega),by omega,by omega,?_⟩
     rw[hown];omega
   ·refine⟨_,_,_,rfl,hr'.mono (by omega),m0,m7,?_⟩
    rw[hown];omega
  split
  ·obtain⟨v,r1,e1,h1,a1,b1,_⟩:=P.Yg hr (by omega) 2
   rw[e1]
   simp only[oE,oS]
   have hwn:i64.wrap (n+1)=n+1:=ZF (by omega) (by omega)
   split
   ·rw[hwn]
    exact⟨_,_,_,rfl,h1.mono (by omega),by omega,by omega,by rw[ZBd];omega⟩
   ·obtain⟨z',z12',out',next',f1,f2,f3,f4,f5⟩:=P.Yh (p:=p) (L:=F.f62 p n) (fun z z12 out i next=>by rw[F.f62]) ih p.kids.length _ r1.f0 r1.f1 [] n (Nat.le_refl _) h1 (by rw[Nat.sub_self,List.drop_zero];omega) (by omega) (by simp;omega) n0 n7
    rw[Nat.sub_self]at f1;rw[Nat.sub_self,List.drop_zero]at f2 f5
    rw[f1]
    simp only[oS]
    simp at f5
    exact tail _ z' z12' out' next' f2 (by omega) f3 f4 (by omega)
  ·obtain⟨z',z12',out',next',f1,f2,f3,f4,f5⟩:=P.Yh (p:=p) (L:=F.f63 p n) (fun z z12 out i next=>by rw[F.f63]) ih p.kids.length _ r.f0 r.f1 [] n (Nat.le_refl _) hr (by rw[Nat.sub_self,List.drop_zero];omega) (by omega) (by simp;omega) n0 n7
   rw[Nat.sub_self]at f1;rw[Nat.sub_self,List.drop_zero]at f2 f5
   rw[f1]
   simp only[oE,oS]
   simp at f5
   exact tail _ z' z12' out' next' f2 (by omega) f3 f4 (by omega)
theorem ZPG (w:List Data)(t:Ty):ZBa w t ⟨1,0,0,0,0,[]⟩:=by
 have hp:ZG w t ⟨1,0,0,0,0,[]⟩=[]:=by simp[ZG]
 refine⟨⟨.inl ⟨rfl,rfl,rfl,rfl,rfl⟩,by rw[hp];rfl,fun i _ h=>by rw[hp]at h;simp at h⟩,⟨fun i _ h=>by rw[hp]at h;simp at h,?_⟩,by rw[ZBd];omega⟩
 rw[if_neg (by simp)]
 simp[ZEp,ZM]
theorem P.YAo {w:List Data}(hw:ZO w){t:Ty}(ht:Zc w t){K:Nat}{r:ZD}(hr:rok K r)(hK:K+20000<=1099511627776):∃p r',F.f86 r w t=some (p,r')/\rok (K+20000) r'/\ZBa w t p:=by
 unfold F.f86
 obtain⟨v,r1,e1,h1,hv⟩:=P.num hr (by omega) [3,2,4,1] (by simp)
 obtain⟨d,rfl,hd⟩:∃d:Nat,v=(d:Int)/\d<=4:=by
  simp at hv
  exact⟨v.toNat,by omega,by omega⟩
 have h8:8^d<=4096:=Nat.le_trans (Nat.pow_le_pow_right (n:=8) (by omega) hd) (by decide)
 obtain⟨p,r2,e2,h2,hp⟩:=P.YAp hw d t _ r1 ht (by omega) h1 (by omega)
 obtain⟨q,n,r3,e3,h3,_,_,hq⟩:=P.YAy p 0 _ r2 (by omega) (by omega) h2 (by omega) (by omega)
 rw[e1]
 simp only[oE,oS]
 rw[e2]
 simp only[oS]
 rw[e3]
 simp only[oS]
 rw[P.YAN w hw t ht q (by omega)]
 simp only[oS]
 by_cases h:ZBa w t q
 ·rw[if_pos (ZH h)]
  exact⟨_,_,rfl,h3.mono (by omega),h⟩
 ·rw[if_neg (by rw[ZE h];simp)]
  exact⟨_,_,rfl,h3.mono (by omega),ZPG w t⟩
theorem P.YAY {K:Nat}{r:ZD}(hr:rok K r)(hK:K+2<=1099511627776)(p:Pattern)(hp:p.wt<=1048576):∃p' r',F.f91 r p=some (p',r')/\rok (K+2) r'/\p'.wt<=p.wt+1:=by
 have hwt:=p.wt_eq
 have hlen:=ZAb Pattern.wt p.kids
 have own:∀(a b c d e:Int) (ks:List Pattern),(⟨a,b,c,d,e,ks⟩:Pattern).wt=wtL Pattern.wt ks:=fun a b c d e ks=>by rw[Pattern.wt_eq]
 unfold F.f91
 rw[if_pos (by omega)]
 obtain⟨v,r1,e1,h1,_⟩:=P.Yg hr (by omega) 30
 rw[e1]
 simp only[oE,oS]
 split
 ·obtain⟨v2,r2,e2,h2,_⟩:=P.num h1 (by omega) [0,7,1,2,5] (by simp)
  rw[e2];exact⟨_,_,rfl,h2,by rw[own];omega⟩
 split
 ·obtain⟨v2,r2,e2,h2,_⟩:=P.num h1 (by omega) [6,-1,1] (by simp)
  rw[e2];exact⟨_,_,rfl,h2,by rw[own];omega⟩
 split
 ·obtain⟨v2,r2,e2,h2,_⟩:=P.num h1 (by omega) [9,-1,1] (by simp)
  rw[e2];exact⟨_,_,rfl,h2,by rw[own];omega⟩
 split
 ·rw[if_pos (by omega)]
  refine⟨_,_,rfl,h1.mono (by omega),?_⟩
  rw[own]
  have:wtL Pattern.wt (p.kids++[⟨2,0,0,0,0,[]⟩])=wtL Pattern.wt p.kids+(1+Pattern.wt ⟨2,0,0,0,0,[]⟩):=by simp[wtL];omega
  rw[this,ZBd];omega
 split
 ·split
  ·next h0=>
   rw[gQ h0]
   refine⟨_,_,rfl,h1.mono (by omega),?_⟩
   rw[own]
   have:=ZIn Pattern.wt p.kids 0 h0 ⟨2,0,0,0,0,[]⟩
   rw[ZBd]at this
   omega
  ·exact⟨_,_,rfl,h1.mono (by omega),by omega⟩
 split
 ·obtain⟨v2,r2,e2,h2,_⟩:=P.num h1 (by omega) [10,-1,5] (by simp)
  rw[e2];exact⟨_,_,rfl,h2,by rw[own];omega⟩
 ·exact⟨_,_,rfl,h1.mono (by omega),by omega⟩
theorem P.YS (x:Pattern):F.f144 x x=some true:=by
 induction x using Pattern.ind with
 |_ x ih=>
  rw[F.f144,if_pos rfl,if_pos rfl,if_pos rfl,if_pos rfl,if_pos rfl,F.f145,if_pos rfl]
  have key:∀k,k<=x.kids.length->F.f146 x.kids x.kids (x.kids.length-k)=some (.go ()):=by
   intro k
   induction k with
   |zero=>intro _;rw[F.f146,if_neg (by omega)]
   |succ k ih2=>
    intro hk
    have hi:x.kids.length- (k+1)<x.kids.length:=by omega
    have ei:x.kids.length- (k+1)+1=x.kids.length-k:=by omega
    rw[F.f146,if_pos hi,gQ hi]
    simp only[oE,oS]
    rw[ih _ (gM hi)]
    simp only[oS]
    simp only[if_true]
    rw[ei]
    exact ih2 (by omega)
  have:=key x.kids.length (Nat.le_refl _)
  rw[Nat.sub_self]at this
  rw[this]
  rfl
def Tree.nodes :Tree->Nat
 |⟨_,_,_,_,branches,els⟩=>1+(branches.attach.map fun⟨b,_⟩=>Tree.nodes b.tree).sum+(els.attach.map fun⟨k,_⟩=>Tree.nodes k).sum
termination_by t=>SizeOf.sizeOf t
decreasing_by
 ·rename_i h
  have:=List.sizeOf_lt_of_mem h
  cases b
  simp at this ⊢
  omega
 ·rename_i h
  have:=List.sizeOf_lt_of_mem h
  simp
  omega
def ZI0 :Nat->Tree->Prop
 |0,_=>False
 |n+1,x=>(0<=x.op/\x.op<=2/\x.els.length<=1/\x.branches.length<=10)/\(∀b,b∈x.branches->ZI0 n b.tree)/\∀y,y∈x.els->ZI0 n y
def right (x:Tree):Prop:=ZI0 x.nodes x
theorem ZIo (l:List Pattern)(x:Pattern):wtL Pattern.wt (l++[x])=wtL Pattern.wt l+(1+x.wt):=by simp[wtL];omega
def Zr :List Nat->Nat
 | []=>1
 |a::r=>a*Zr r
def Pattern.alts :Pattern->Nat
 |⟨op,_,_,_,_,kids⟩=>if op=5 then(kids.map fun k=>Pattern.alts k).sum else Zr (kids.map fun k=>Pattern.alts k)
theorem ZBM (p:Pattern):p.alts=if p.op=5 then(p.kids.map Pattern.alts).sum else Zr (p.kids.map Pattern.alts):=by
 cases p;rw[Pattern.alts]
theorem ZMt (a b:Nat):min (min a 401+min b 401) 401=min (a+b) 401:=by omega
theorem ZMs (a b:Nat):min (min a 401*min b 401) 401=min (a*b) 401:=by
 by_cases ha:a<=401
 ·by_cases hb:b<=401
  ·rw[Nat.min_eq_left ha,Nat.min_eq_left hb]
  ·rw[Nat.min_eq_left ha,Nat.min_eq_right (by omega:401<=b)]
   rcases Nat.eq_zero_or_pos a with rfl|h
   ·simp
   ·have h1:1*401<=a*401:=Nat.mul_le_mul_right _ h
    have h2:1*b<=a*b:=Nat.mul_le_mul_right _ h
    omega
 ·rw[Nat.min_eq_right (by omega:401<=a)]
  rcases Nat.eq_zero_or_pos b with rfl|h
  ·simp
  ·have h0:1<=min b 401:=by omega
   have h1:401*1<=401*min b 401:=Nat.mul_le_mul_left _ h0
   have h2:a*1<=a*b:=Nat.mul_le_mul_left _ h
   omega
theorem ZCB :∀{l:List Nat},(∀x,x∈l->1<=x)->1<=Zr l
 | [],_=>Nat.le_refl _
 |a::r,h=>by
  have h1:=h a (by simp)
  have h2:=ZCB (l:=r) fun x hx=>h x (List.mem_cons_of_mem _ hx)
  exact Nat.mul_le_mul h1 h2
theorem ZHf {w:List Data}:∀{d:Nat} {t:Ty} {p:Pattern},ZN w d t p->1<=p.alts
 |0,_,_,h=>h.elim
 |d+1,t,p,⟨ho,hl,hk⟩=>by
  have hks:∀k,k∈p.kids->1<=k.alts:=fun k hm=>by
   obtain⟨i,hi,rfl⟩:=List.getElem_of_mem hm
   exact ZHf (hk i (Nat.zero_le _) (by omega) (by omega) hi)
  rw[ZBM]
  split
  ·next h5=>
   have e5:=ZW ho h5
   have h2:p.kids.length=2:=by rw[hl,e5];rfl
   have q0:=hks _ (gM (show 0<p.kids.length by omega))
   have e9:(([p.kids[0]'(by omega),p.kids[1]'(by omega)]:List Pattern).map Pattern.alts).sum=(p.kids[0]'(by omega)).alts+(p.kids[1]'(by omega)).alts:=by simp
   rw[←ZC9 h2]at e9
   omega
  ·exact ZCB fun x hx=>by
    obtain⟨k,hk2,rfl⟩:=List.mem_map.1 hx
    exact hks k hk2
theorem ZEE {l:List Nat}(h:∀x,x∈l->1<=x)(i:Nat):Zr (l.take i)<=Zr l:=by
 induction l generalizing i with
 |nil=>simp[Zr]
 |cons a r ih=>
  have hr:∀x,x∈r->1<=x:=fun x hx=>h x (List.mem_cons_of_mem _ hx)
  cases i with
  |zero=>exact ZCB h
  |succ i=>exact Nat.mul_le_mul_left _ (ih hr i)
theorem ZGh {f g:Ty×Pattern->List VarType}:∀{ts:List Ty} {qs ks:List Pattern} (n:Nat),qs.length=ks.length->(∀i (h1:i<ts.length) (h2:i<qs.length) (h3:i<ks.length),f (ts[i],qs[i])=g (ts[i],ks[i]))->
  ((ts.zip qs).take n).flatMap f=((ts.zip ks).take n).flatMap g
 | [],_,_,n,_,_=>by simp
 |t::ts,[],[],n,_,_=>by simp
 |t::ts,[],k::ks,n,h,_=>by simp at h
 |t::ts,q::qs,[],n,h,_=>by simp at h
 |t::ts,q::qs,k::ks,0,h,hh=>by simp
 |t::ts,q::qs,k::ks,n+1,h,hh=>by
  have h0:=hh 0 (by simp) (by simp) (by simp)
  have hr:=ZGh (f:=f) (g:=g) (ts:=ts) (qs:=qs) (ks:=ks) n (by simpa using h) fun i h1 h2 h3=>by
   have:=hh (i+1) (by simpa using h1) (by simpa using h2) (by simpa using h3)
   simpa using this
  simp only[List.getElem_cons_zero]at h0
  simp only[List.zip_cons_cons,List.take_succ_cons,List.flatMap_cons,h0,hr]
theorem flat_nil {f:Ty×Pattern->List VarType}:∀{ts:List Ty} {ks:List Pattern} (n:Nat),(∀i (h1:i<ts.length) (h3:i<ks.length),f (ts[i],ks[i])=[])->((ts.zip ks).take n).flatMap f=[]
 | [],_,n,_=>by simp
 |t::ts,[],n,_=>by simp
 |t::ts,k::ks,0,_=>by simp
 |t::ts,k::ks,n+1,hh=>by
  have h0:=hh 0 (by simp) (by simp)
  have hr:=flat_nil (f:=f) (ts:=ts) (ks:=ks) n fun i h1 h3=>by
   have:=hh (i+1) (by simpa using h1) (by simpa using h3)
   simpa using this
  simp only[List.getElem_cons_zero]at h0
  simp only[List.zip_cons_cons,List.take_succ_cons,List.flatMap_cons,h0,hr,List.append_nil]
theorem ZAE {w:List Data}{d:Nat}{t:Ty}{p:Pattern}(h:p.op=1∨p.op=3):ZM w d t p=[]:=by
 cases d with
 |zero=>rfl
 |succ d=>
  have e:ZG w t p=[]:=by unfold ZG;rw[if_neg (by omega),if_neg (by omega),if_neg (by omega)]
  rw[ZM,if_neg (by omega),e];simp
theorem ZBC {w:List Data}:∀{d:Nat} {t:Ty} {p:Pattern},ZN w d t p->ZM w (d+1) t p=ZM w d t p
 |d+1,t,p,h=>by
  rw[ZM,ZM.eq_def w (d+1)]
  simp only
  congr 1
  exact ZGh _ rfl fun i h1 h2 _=>ZBC (h.2.2 i (Nat.zero_le _) h1 h1 h2)
theorem ZHV {w:List Data}:∀{d:Nat} {t:Ty} {p:Pattern},ZN w d t p->ZBy w d t p->ZBy w (d+1) t p
 |d+1,t,p,h,hl=>by
  obtain⟨l1,l2⟩:=hl
  refine⟨fun i h0 hi h1 h2=>ZHV (h.2.2 i h0 hi h1 h2) (l1 i h0 hi h1 h2),?_⟩
  split at l2
  ·next h5=>
   rw[if_pos h5]
   intro h0 h1
   have e5:=ZW h.1 h5
   have s0:=h.2.2 0 (Nat.zero_le _) (by rw[e5];simp) (by rw[e5];simp) h0
   have s1:=h.2.2 1 (Nat.zero_le _) (by rw[e5];simp) (by rw[e5];simp) h1
   have t0:(ZG w t p)[0]'(by rw[e5];simp)=t:=by simp[e5]
   have t1:(ZG w t p)[1]'(by rw[e5];simp)=t:=by simp[e5]
   rw[t0]at s0
   rw[t1]at s1
   rw[ZBC s0,ZBC s1]
   exact l2 h0 h1
  ·next h5=>
   rw[if_neg h5,ZBC h]
   exact l2
theorem ZEs {w:List Data}(d:Nat){t:Ty}{p:Pattern}(h:p.op=1∨p.op=3):ZBy w (d+1) t p:=by
 have e:ZG w t p=[]:=by unfold ZG;rw[if_neg (by omega),if_neg (by omega),if_neg (by omega)]
 refine⟨fun i _ hi=>by rw[e]at hi;simp at hi,?_⟩
 rw[if_neg (by omega),ZAE h]
 simp[ZEp]
theorem ZDC {p:Pattern}(h5:p.op≠5)(hk:p.kids=[]):p.alts=1:=by rw[ZBM,if_neg h5,hk];rfl
theorem ZB6 (n m:Int):(Zd n m).op=1∨(Zd n m).op=3:=by unfold Zd;split<;>simp[ZA9]
theorem ZDM (n m:Int):(Zd n m).kids=[]:=by unfold Zd;split<;>rfl
theorem P.YAw (w:List Data)(hw:ZO w)(d:Nat)(t:Ty)(ht:Zc w t)(a b q:Pattern)(hsa:ZN w d t a)(hsb:ZN w d t b)(hwa:a.wt<=1048576)(h:F.f167 w t a b=some q):
  q=a∨(ZM w d t a=[]/\(q=ZA9∨∃n m,q=Zd n m))∨q=⟨5,0,0,0,0,[a,b]⟩:=by
 obtain⟨bS,s1,_⟩:=P.YH a b
 have hvars:F.f74 [] w t a=some (ZM w d t a):=by rw[P.YE w hw d t a [] ht hsa (by simp;omega)];rfl
 have hc1:=P.YB w hw t (ZAA ht.1)
 have hb:b.op=1->b=ZA9:=fun e=>ZHe hsb e
 have ha3:a.op=3->ZM w d t a=[]:=fun e=>ZAE (.inr e)
 have ha4:a.op=4->ZAM a.kids->ZM w d t a=[]:=fun e hh=>by
  cases d with
  |zero=>exact hsa.elim
  |succ d=>
   rw[ZM,if_neg (by omega),flat_nil _ fun i h1 h3=>ZAE (.inl (hh i h3))]
   rfl
 unfold F.f167 F.f164 at h
 simp only[s1,P.YA,P.YF,hvars,F.f160,hc1,oE,oS,decide_eq_true_eq,Zs]at h
 have fin:∀{X:Pattern},some X=some q->(X=a∨(ZM w d t a=[]/\(X=ZA9∨∃n m,X=Zd n m))∨X=⟨5,0,0,0,0,[a,b]⟩)->q=a∨(ZM w d t a=[]/\(q=ZA9∨∃n m,q=Zd n m))∨q=⟨5,0,0,0,0,[a,b]⟩:=fun e g=>by
  cases e;exact g
 by_cases c0:bS=true
 ·rw[if_pos c0]at h;exact fin h (.inl rfl)
 rw[if_neg c0]at h
 by_cases c1:a.op=1
 ·rw[if_pos c1]at h;exact fin h (.inl rfl)
 rw[if_neg c1]at h
 have tail1:(if b.op=1 then(if(ZM w d t a).length=0 then some b else some (⟨5,0,0,0,0,[a,b]⟩:Pattern))else some (⟨5,0,0,0,0,[a,b]⟩:Pattern))=some q->q=a∨(ZM w d t a=[]/\(q=ZA9∨∃n m,q=Zd n m))∨q=⟨5,0,0,0,0,[a,b]⟩:=by
  intro h
  by_cases e1:b.op=1
  ·rw[if_pos e1]at h
   by_cases e2:(ZM w d t a).length=0
   ·rw[if_pos e2]at h;exact fin h (.inr (.inl ⟨List.length_eq_zero_iff.1 e2,.inl (hb e1)⟩))
   ·rw[if_neg e2]at h;exact fin h (.inr (.inr rfl))
  ·rw[if_neg e1]at h;exact fin h (.inr (.inr rfl))
 by_cases c3:a.op=3
 ·have rg:∀{n m:Int},some (Zd n m)=some q->q=a∨(ZM w d t a=[]/\(q=ZA9∨∃n m,q=Zd n m))∨q=⟨5,0,0,0,0,[a,b]⟩:=fun h=>fin h (.inr (.inl ⟨ha3 c3,.inr ⟨_,_,rfl⟩⟩))
  rw[if_pos c3]at h
  by_cases c4:b.op=3
  ·rw[if_pos c4]at h
   by_cases c5:a.n<=i64.wrap (b.m+1)
   ·rw[if_pos c5]at h
    by_cases c6:b.n<=i64.wrap (a.m+1)
    ·rw[if_pos c6]at h
     by_cases c7:b.n<a.n
     ·rw[if_pos c7]at h
      by_cases c8:a.m<b.m
      ·rw[if_pos c8]at h;exact rg h
      ·rw[if_neg c8]at h;exact rg h
     ·rw[if_neg c7]at h
      by_cases c8:a.m<b.m
      ·rw[if_pos c8]at h;exact rg h
      ·rw[if_neg c8]at h;exact rg h
    ·rw[if_neg c6]at h;exact tail1 h
   ·rw[if_neg c5]at h;exact tail1 h
  ·rw[if_neg c4]at h;exact tail1 h
 rw[if_neg c3]at h
 have tail2:(if a.op=4 then(if b.op=4 then(if dec (ZAM a.kids)=true then(if dec (ZAM b.kids)=true then(if a.ctor=b.ctor then some (⟨5,0,0,0,0,[a,b]⟩:Pattern)else(if(ZJ w t).length=2 then some (⟨1,0,0,0,0,[]⟩:Pattern)else some (⟨5,0,0,0,0,[a,b]⟩:Pattern)))else some (⟨5,0,0,0,0,[a,b]⟩:Pattern))else some (⟨5,0,0,0,0,[a,b]⟩:Pattern))else some (⟨5,0,0,0,0,[a,b]⟩:Pattern))else some (⟨5,0,0,0,0,[a,b]⟩:Pattern))=some q->q=a∨(ZM w d t a=[]/\(q=ZA9∨∃n m,q=Zd n m))∨q=⟨5,0,0,0,0,[a,b]⟩:=by
  intro h
  have or2:some (⟨5,0,0,0,0,[a,b]⟩:Pattern)=some q->q=a∨(ZM w d t a=[]/\(q=ZA9∨∃n m,q=Zd n m))∨q=⟨5,0,0,0,0,[a,b]⟩:=fun h=>fin h (.inr (.inr rfl))
  by_cases e1:a.op=4
  ·rw[if_pos e1]at h
   by_cases e2:b.op=4
   ·rw[if_pos e2]at h
    by_cases e3:dec (ZAM a.kids)=true
    ·rw[if_pos e3]at h
     by_cases e4:dec (ZAM b.kids)=true
     ·rw[if_pos e4]at h
      by_cases e5:a.ctor=b.ctor
      ·rw[if_pos e5]at h;exact or2 h
      ·rw[if_neg e5]at h
       by_cases e6:(ZJ w t).length=2
       ·rw[if_pos e6]at h;exact fin h (.inr (.inl ⟨ha4 e1 (Zs.1 e3),.inl rfl⟩))
       ·rw[if_neg e6]at h;exact or2 h
     ·rw[if_neg e4]at h;exact or2 h
    ·rw[if_neg e3]at h;exact or2 h
   ·rw[if_neg e2]at h;exact or2 h
  ·rw[if_neg e1]at h;exact or2 h
 by_cases e1:b.op=1
 ·rw[if_pos e1]at h
  by_cases e2:(ZM w d t a).length=0
  ·rw[if_pos e2]at h;exact fin h (.inr (.inl ⟨List.length_eq_zero_iff.1 e2,.inl (hb e1)⟩))
  ·rw[if_neg e2]at h;exact tail2 h
 ·rw[if_neg e1]at h;exact tail2 h
theorem ZHM :∀{as bs:List Pattern},as.length=bs.length->(∀i (h:i<as.length) (h':i<bs.length),as[i].alts<=bs[i].alts)->Zr (as.map Pattern.alts)<=Zr (bs.map Pattern.alts)
 | [],[],_,_=>Nat.le_refl _
 | [],_::_,h,_=>by simp at h
 |_::_,[],h,_=>by simp at h
 |a::as,b::bs,h,hh=>by
  have h0:=hh 0 (by simp) (by simp)
  have hr:=ZHM (as:=as) (bs:=bs) (by simpa using h) fun i h1 h2=>by
   have:=hh (i+1) (by simpa using h1) (by simpa using h2)
   simpa using this
  simp only[List.getElem_cons_zero]at h0
  exact Nat.mul_le_mul h0 hr
theorem P.Yy (w:List Data)(hw:ZO w):∀(d:Nat) (t:Ty) (p q:Pattern),Zc w t->ZN w d t p->ZBy w d t p->p.wt<=1048576->F.f168 w t p=some q->
  ZM w d t q=ZM w d t p/\ZBy w d t q/\q.alts<=p.alts
 |0,t,p,q,ht,hs,hl,hp,hq=>hs.elim
 |d+1,t,p,q,ht,hs,hl,hp,hq=>by
  obtain⟨qs,hql,hqk⟩:=P.Yz w hw d (P.YR w hw d) t p ht hs hl hp
  obtain⟨q',e1,_,hok⟩:=P.YR w hw (d+1) t p ht hs hl hp
  obtain rfl:q'=q:=Option.some.inj (e1.symm.trans hq)
  have hqs:=hok.1
  have hs':=hs
  obtain⟨ho,hlen,hk⟩:=hs'
  have hts:=ZAC hw ht ho
  have hwt:=p.wt_eq
  have tok:=ZAA ht.1
  have hl':=hl
  obtain⟨l1,l2⟩:=hl'
  have own:=ho
  unfold ZAW at own
  have ppos:=ZHf hs
  have IH:∀i (h1:i<(ZG w t p).length) (h2:i<p.kids.length) (h3:i<qs.length),ZM w d (ZG w t p)[i] qs[i]=ZM w d (ZG w t p)[i] p.kids[i]/\ZBy w d (ZG w t p)[i] qs[i]/\qs[i].alts<=p.kids[i].alts:=fun i h1 h2 h3=>by
   have hwi:=Zg Pattern.wt (gM h2)
   exact P.Yy w hw d _ _ _ (hts _ (gM h1)) (hk i (Nat.zero_le _) h1 h1 h2) (l1 i (Nat.zero_le _) h1 h1 h2) (by omega) (hqk i h1 h2 h3).1
  have shq:∀i (h1:i<(ZG w t p).length) (h3:i<qs.length),ZN w d (ZG w t p)[i] qs[i]:=fun i h1 h3=>(hqk i h1 (by omega) h3).2.2.1
  rw[F.f168]at hq
  by_cases h3:p.op=3
  ·rw[if_pos h3,P.YF]at hq
   simp only[oE,oS]at hq
   cases hq
   rw[ZAE (ZB6 _ _),ZAE (.inr h3)]
   refine⟨rfl,ZEs d (ZB6 _ _),?_⟩
   rw[ZDC (by rcases ZB6 p.n p.m with h|h<;>omega) (ZDM _ _)]
   exact ppos
  rw[if_neg h3]at hq
  by_cases h5:p.op=5
  ·rw[if_pos h5]at hq
   have e5:=ZW ho h5
   have hl2:p.kids.length=2:=by rw[hlen,e5];rfl
   have t0:(ZG w t p)[0]'(by rw[e5];simp)=t:=by simp[e5]
   have t1:(ZG w t p)[1]'(by rw[e5];simp)=t:=by simp[e5]
   have g0:=(hqk 0 (by rw[e5];simp) (by omega) (by omega)).1
   have g1:=(hqk 1 (by rw[e5];simp) (by omega) (by omega)).1
   obtain⟨a1,a2,a3⟩:=IH 0 (by rw[e5];simp) (by omega) (by omega)
   obtain⟨b1,b2,b3⟩:=IH 1 (by rw[e5];simp) (by omega) (by omega)
   have sa:=shq 0 (by rw[e5];simp) (by omega)
   have sb:=shq 1 (by rw[e5];simp) (by omega)
   have wa:=(hqk 0 (by rw[e5];simp) (by omega) (by omega)).2.2.2.2.2
   have wk:=Zg Pattern.wt (gM (l:=p.kids) (n:=0) (by omega))
   rw[t0]at a1 a2 g0 sa
   rw[t1]at b1 b2 g1 sb
   rw[gQ (by omega),gQ (by omega)]at hq
   simp only[oE,oS]at hq
   rw[g0,g1]at hq
   simp only[oS]at hq
   have hq2:F.f167 w t (qs[0]'(by omega)) (qs[1]'(by omega))=some q':=by
    cases hz:F.f167 w t (qs[0]'(by omega)) (qs[1]'(by omega))with
    |none=>rw[hz]at hq;cases hq
    |some z=>rw[hz]at hq;exact hq
   have hpv:ZM w (d+1) t p=ZM w d t (p.kids[0]'(by omega)):=ZAi ho h5 (by omega)
   have hpa:p.alts=(p.kids[0]'(by omega)).alts+(p.kids[1]'(by omega)).alts:=by
    have e9:(([p.kids[0]'(by omega),p.kids[1]'(by omega)]:List Pattern).map Pattern.alts).sum=(p.kids[0]'(by omega)).alts+(p.kids[1]'(by omega)).alts:=by simp
    rw[←ZC9 hl2]at e9
    rw[ZBM,if_pos h5];exact e9
   rw[if_pos h5]at l2
   have sv:=l2 (by omega) (by omega)
   rcases P.YAw w hw d t ht _ _ _ sa sb (by omega) hq2 with e|⟨e0,e⟩|e
   ·rw[e]
    refine⟨by rw[ZBC sa,a1,hpv],ZHV sa a2,by omega⟩
   ·have hop:q'.op=1∨q'.op=3:=by
     rcases e with e|⟨n,m,e⟩
     ·rw[e];exact .inl rfl
     ·rw[e];exact ZB6 _ _
    have hkn:q'.kids=[]:=by
     rcases e with e|⟨n,m,e⟩
     ·rw[e];rfl
     ·rw[e];exact ZDM _ _
    refine⟨by rw[ZAE hop,hpv,←a1,e0],ZEs d hop,?_⟩
    rw[ZDC (by omega) hkn]
    exact ppos
   ·have ho':ZAW w t (⟨5,0,0,0,0,[qs[0]'(by omega),qs[1]'(by omega)]⟩:Pattern):=.inr (.inr (.inr (.inr (.inl ⟨rfl,rfl,rfl,rfl,rfl⟩))))
    have et:ZG w t (⟨5,0,0,0,0,[qs[0]'(by omega),qs[1]'(by omega)]⟩:Pattern)=[t,t]:=by unfold ZG;rfl
    rw[e]
    refine⟨?_,⟨fun i _ _ h1 h2=> ?_,?_⟩,?_⟩
    ·rw[ZAi ho' rfl (by simp),hpv];exact a1
    ·match i,h1,h2 with
     |0,h1,h2=>simp only[et];exact a2
     |1,h1,h2=>simp only[et];exact b2
     |k+2,h1,h2=>exact absurd (show k+2<2 from h2) (by omega)
    ·rw[if_pos rfl]
     intro _ _
     show ZFC (ZM w d t (qs[0]'(by omega))) (ZM w d t (qs[1]'(by omega)))
     rw[a1,b1];exact sv
    ·rw[ZBM,if_pos rfl];simp;omega
  rw[if_neg h5]at hq
  rw[if_neg h5]at l2
  by_cases h6:p.op=6
  ·rw[if_pos h6]at hq
   have e6:ZG w t p=[t]:=by unfold ZG;rw[if_neg (by omega),if_neg h5,if_pos h6]
   have hl1:p.kids.length=1:=by rw[hlen,e6];rfl
   have t0:(ZG w t p)[0]'(by rw[e6];simp)=t:=by simp[e6]
   have g0:=(hqk 0 (by rw[e6];simp) (by omega) (by omega)).1
   obtain⟨a1,a2,a3⟩:=IH 0 (by rw[e6];simp) (by omega) (by omega)
   rw[t0]at a1 a2 g0
   rw[gQ (by omega)]at hq
   simp only[oE,oS]at hq
   rw[g0]at hq
   unfold F.f164 at hq
   simp only[oS,decide_eq_true_eq]at hq
   have hpa:p.alts=(p.kids[0]'(by omega)).alts:=by
    have e9:Zr (([p.kids[0]'(by omega)]:List Pattern).map Pattern.alts)=(p.kids[0]'(by omega)).alts:=by simp[Zr]
    rw[←ZDA hl1]at e9
    rw[ZBM,if_neg h5];exact e9
   have hpv:ZM w (d+1) t p=⟨p.var,t⟩::ZM w d t (p.kids[0]'(by omega)):=by
    have e9:((([t]:List Ty).zip [p.kids[0]'(by omega)]).take ([p.kids[0]'(by omega)]:List Pattern).length).flatMap (fun x=>ZM w d x.1 x.2)=ZM w d t (p.kids[0]'(by omega)):=by simp
    rw[←ZDA hl1]at e9
    rw[ZM,if_pos (.inr h6),if_neg h5,e6,e9];rfl
   split at hq
   ·next hop=>
    cases hq
    have e2:ZG w t (⟨2,0,0,0,p.var,[]⟩:Pattern)=[]:=by unfold ZG;rfl
    have hv2:ZM w (d+1) t (⟨2,0,0,0,p.var,[]⟩:Pattern)=[⟨p.var,t⟩]:=by rw[ZM,if_pos (.inl rfl),e2];simp
    have hk0:ZM w d t (p.kids[0]'(by omega))=[]:=by rw[←a1];exact ZAE (.inl hop)
    refine⟨by rw[hv2,hpv,hk0],⟨fun i _ hi=>by rw[e2]at hi;simp at hi,?_⟩,?_⟩
    ·rw[if_neg (show ¬(2:Int)=5 by decide),hv2];simp[ZEp]
    ·rw[ZDC (show(2:Int)≠5 by decide) rfl];exact ppos
   ·cases hq
    have e2:ZG w t (⟨6,0,0,0,p.var,[qs[0]'(by omega)]⟩:Pattern)=[t]:=by unfold ZG;rfl
    have hv2:ZM w (d+1) t (⟨6,0,0,0,p.var,[qs[0]'(by omega)]⟩:Pattern)=⟨p.var,t⟩::ZM w d t (qs[0]'(by omega)):=by
     rw[ZM,if_pos (.inr rfl),if_neg (show ¬(6:Int)=5 by decide),e2];simp
    refine⟨by rw[hv2,hpv,a1],⟨fun i _ _ h1 h2=> ?_,?_⟩,?_⟩
    ·match i,h1,h2 with
     |0,h1,h2=>simp only[e2];exact a2
     |k+1,h1,h2=>exact absurd (show k+1<1 from h2) (by omega)
    ·rw[if_neg (show ¬(6:Int)=5 by decide),hv2,a1,←hpv];exact l2
    ·rw[ZBM,if_neg (show ¬(6:Int)=5 by decide)];simp[Zr];omega
  rw[if_neg h6]at hq
  by_cases h4:p.op=4
  ·rw[if_pos h4]at hq
   have e4:ZG w t p=ZI w t p.ctor:=by unfold ZG;rw[if_pos h4]
   have hct:p.ctor∈ZJ w t:=by rcases own with h|h|h|h|h|h<;>first|exact h.2.2.2.2|omega
   have hkl:=ZAb Pattern.wt p.kids
   have hloop2:F.f169 w t p (ZI w t p.ctor) [] 0=some qs:=by
    have:=ZCN (qs:=qs) (L:=fun out i=>F.f169 w t p (ZI w t p.ctor) out i) (fun out i h=>by
      show F.f169 w t p (ZI w t p.ctor) out i=_
      rw[F.f169,if_neg (by rw[←e4];omega)])
     (fun out i h ho=>by
      show F.f169 w t p (ZI w t p.ctor) out i=_
      have h2:i<p.kids.length:=by omega
      have h1:i<(ZG w t p).length:=by omega
      have hqi:=(hqk i h1 h2 h).1
      rw[F.f169,←e4,if_pos h1,gQ h2,gQ h1]
      simp only[oE,oS,hqi]
      rw[if_pos ho]) _ 0 [] rfl (by simp;omega)
    simpa using this
   rw[P.YC w hw t tok _ hct]at hq
   simp only[oE,oS,hloop2,P.YB w hw t tok,P.YA,F.f160,Zs]at hq
   have hpv:ZM w (d+1) t p=(((ZG w t p).zip p.kids).take p.kids.length).flatMap fun x=>ZM w d x.1 x.2:=by
    rw[ZM,if_neg (by omega),if_neg h5];rfl
   have et:ZG w t (⟨4,p.ctor,0,0,0,qs⟩:Pattern)=ZG w t p:=by rw[e4];unfold ZG;rfl
   have hqv:ZM w (d+1) t (⟨4,p.ctor,0,0,0,qs⟩:Pattern)=ZM w (d+1) t p:=by
    rw[hpv,ZM,if_neg (show ¬((4:Int)=2∨(4:Int)=6) by decide),if_neg (show ¬(4:Int)=5 by decide),et]
    show[]++(((ZG w t p).zip qs).take qs.length).flatMap _=_
    rw[hql,List.nil_append]
    exact ZGh _ hql fun i h1 h2 h3=>(IH i h1 h3 h2).1
   have good:ZM w (d+1) t (⟨4,p.ctor,0,0,0,qs⟩:Pattern)=ZM w (d+1) t p/\ZBy w (d+1) t (⟨4,p.ctor,0,0,0,qs⟩:Pattern)/\(⟨4,p.ctor,0,0,0,qs⟩:Pattern).alts<=p.alts:=by
    refine⟨hqv,⟨fun i _ _ h1 h2=> ?_,?_⟩,?_⟩
    ·have h2':i<qs.length:=h2
     simp only[et]
     exact(IH i (by omega) (by omega) h2').2.1
    ·rw[if_neg (show ¬(4:Int)=5 by decide),hqv];exact l2
    ·rw[ZBM,ZBM p,if_neg (show ¬(4:Int)=5 by decide),if_neg h5]
     exact ZHM hql fun i h1 h2=>(IH i (by omega) h2 h1).2.2
   split at hq
   ·split at hq
    ·next hwd=>
     cases hq
     have hz:ZM w (d+1) t p=[]:=by
      rw[hpv]
      exact flat_nil _ fun i h1 h3=>by
       rw[←(IH i h1 h3 (by omega)).1]
       exact ZAE (.inl (Zs.1 hwd i (by show i<qs.length;omega)))
     exact⟨by rw[hz];exact ZAE (.inl rfl),ZEs d (.inl rfl),by rw[ZDC (show(1:Int)≠5 by decide) rfl];exact ppos⟩
    ·cases hq;exact good
   ·cases hq;exact good
  ·rw[if_neg h4]at hq
   cases hq
   exact⟨rfl,hl,Nat.le_refl _⟩
theorem P.YP (p:Pattern):p.wt<=1048576->∃q,F.f88 p=some q/\q.wt<=p.wt:=by
 induction p using Pattern.ind with
 |_ p ih=>
  intro hw
  have hwk:∀i (h:i<p.kids.length),1+p.kids[i].wt<=p.wt:=fun i h=>by rw[p.wt_eq];exact Zg Pattern.wt (gM h)
  have hkl:p.kids.length<=p.wt:=by rw[p.wt_eq];exact ZAb Pattern.wt p.kids
  have own:∀(a b c d e:Int) (ks:List Pattern),(⟨a,b,c,d,e,ks⟩:Pattern).wt=wtL Pattern.wt ks:=fun a b c d e ks=>by rw[Pattern.wt_eq]
  have key:∀(L:List Pattern->Nat->Option (List Pattern)),(∀out i,L out i=if i<p.kids.length then(p.kids[i]?)>>=fun x=>(F.f88 x)>>=fun v=>if out.length+1<=67108864 then L (out++[v]) (i+1)else none else some out)->
    ∀(m i:Nat) (out:List Pattern),p.kids.length-i=m->out.length<=i->i<=p.kids.length->wtL Pattern.wt out<=wtL Pattern.wt (p.kids.take i)->∃r,L out i=some r/\wtL Pattern.wt r<=p.wt:=by
   intro L hL m
   induction m with
   |zero=>
    intro i out hm ho hi hq
    have:i=p.kids.length:=by omega
    subst this
    rw[hL,if_neg (by omega)]
    rw[List.take_length,←p.wt_eq]at hq
    exact⟨out,rfl,hq⟩
   |succ m ihm=>
    intro i out hm ho hi hq
    have hil:i<p.kids.length:=by omega
    have h1:=hwk i hil
    obtain⟨v,e,hv⟩:=ih _ (gM hil) (by omega)
    rw[hL,if_pos hil,gQ hil]
    simp only[oE,oS]
    rw[e]
    simp only[oS]
    rw[if_pos (by omega)]
    refine ihm (i+1) _ (by omega) (by simp;omega) (by omega) ?_
    rw[List.take_succ_eq_append_getElem hil,ZIo,ZIo]
    omega
  rw[F.f88]
  by_cases h2:p.op=2
  ·rw[if_pos h2];exact⟨_,rfl,by rw[ZBd];omega⟩
  rw[if_neg h2]
  by_cases h6:p.op=6
  ·rw[if_pos h6]
   by_cases h0:0<p.kids.length
   ·have h1:=hwk 0 h0
    obtain⟨v,e,hv⟩:=ih _ (gM h0) (by omega)
    rw[if_pos h0,gQ h0]
    simp only[oE,oS]
    rw[e]
    exact⟨v,rfl,by omega⟩
   ·obtain⟨r,e,hr⟩:=key (F.f89 p) (fun out i=>by rw[F.f89]) _ 0 [] rfl (by simp) (by omega) (by simp)
    rw[if_neg h0,e]
    exact⟨_,rfl,by rw[own];exact hr⟩
  ·obtain⟨r,e,hr⟩:=key (F.f90 p) (fun out i=>by rw[F.f90]) _ 0 [] rfl (by simp) (by omega) (by simp)
   rw[if_neg h6,e]
   exact⟨_,rfl,by rw[own];exact hr⟩
theorem P.YAt {K:Nat}{r:ZD}(hr:rok K r)(hK:K+21000<=1099511627776):∃w t p v r',F.f87 r=some (w,t,p,v,r')/\rok (K+21000) r'/\w∈ZAh/\ZO w/\Zc w t/\ZBa w t p:=by
 obtain⟨w,t,v,r1,T,e1,h1,hw,_,hT,a1,a2,a3,_,_,_,a4⟩:=P.YAq hr (by omega)
 have ht:Zc w t:=by
  refine⟨?_,a3⟩
  rcases a1 with q|⟨q1,q2,q3,q4⟩
  ·exact .inl ⟨q,a4 q⟩
  ·exact .inr ⟨q1,q2,by omega,q4⟩
 obtain⟨p,r2,e2,h2,hp⟩:=P.YAo hT.wok ht h1 (by omega)
 unfold F.f87
 rw[e1]
 simp only[oE,oS]
 rw[e2]
 exact⟨w,t,p,v,r2,rfl,h2.mono (by omega),hw,hT.wok,ht,hp⟩
theorem P.Yb (code:List Int)(hc:ZDi code):∃w t p,F.f92 code=some (w,t,p)/\ZAF w/\p.wt<=1048576:=by
 have key:∀r,rok 0 r->∃w t p,((F.f87 r)>>=fun v=>
   (F.f1 v.2.2.2.2 2)>>=fun v6=>
   if v6.1=0 then
    (F.f86 v6.2 v.1 v.2.1)>>=fun v10=>
    (F.f88 v.2.2.1)>>=fun v12=>
    (F.f88 v10.1)>>=fun v14=>
    (F.f91 v10.2 (⟨5,0,0,0,0,[v12,v14]⟩:Pattern))>>=fun v16=>
    some (v.1,v.2.1,v16.1)
   else
    (F.f91 v6.2 v.2.2.1)>>=fun v18=>
    some (v.1,v.2.1,v18.1))=some (w,t,p)/\ZAF w/\p.wt<=1048576:=by
  intro r hr
  obtain⟨w,t,p,v,r1,e1,h1,hw,hwo,ht,hp⟩:=P.YAt hr (by omega)
  have hpw:=hp.2.2
  rw[e1]
  simp only[oE,oS]
  obtain⟨v6,r2,e2,h2,_⟩:=P.Yg h1 (by omega) 2
  rw[e2]
  simp only[oS]
  split
  ·obtain⟨q,r3,e3,h3,hq⟩:=P.YAo hwo ht h2 (by omega)
   have hqw:=hq.2.2
   obtain⟨a,ea,ha⟩:=P.YP p (by omega)
   obtain⟨b,eb,hb⟩:=P.YP q (by omega)
   rw[e3]
   simp only[oS]
   rw[ea,eb]
   simp only[oS]
   obtain⟨p',r4,e4,_,h4⟩:=P.YAY h3 (by omega) ⟨5,0,0,0,0,[a,b]⟩ (by rw[ZG7];omega)
   rw[e4]
   rw[ZG7]at h4
   exact⟨w,t,p',rfl,ZBA hw,by omega⟩
  ·obtain⟨p',r4,e4,_,h4⟩:=P.YAY h2 (by omega) p (by omega)
   rw[e4]
   exact⟨w,t,p',rfl,ZBA hw,by omega⟩
 unfold F.f92
 by_cases hcl:2000<code.length
 ·rw[if_pos hcl,if_pos (by omega)];exact key _ (ZMI hc)
 ·rw[if_neg hcl];exact key _ (ZKV hc (by omega))
theorem P.YD (w:List Data)(hw:ZAF w)(t:Ty)(p:Pattern)(hp:p.wt<=1048576):F.f135 w t p=some (dec (ZAP w t/\ZBa w t p)):=by
 unfold F.f135
 rw[P.Ya w t hw]
 simp only[oE,oS]
 by_cases h:ZAP w t
 ·rw[if_pos (ZH h),P.YAD w h.1 t h.2 p hp]
  simp only[oS]
  by_cases h2:ZBa w t p
  ·rw[ZH h2,ZH ⟨h,h2⟩]
  ·rw[ZE h2,ZE fun q=>h2 q.2]
 ·rw[if_neg (by rw[ZE h];decide),ZE fun q=>h q.1]
theorem P.YAA (x:Pattern):∀y:Pattern,F.f162 x y=some true->x=y:=by
 induction x using Pattern.ind with
 |_ x ih=>
  intro y h
  rw[F.f162]at h
  by_cases h1:x.op=y.op
  rotate_left
  ·rw[if_neg h1]at h;cases h
  rw[if_pos h1]at h
  by_cases h2:x.ctor=y.ctor
  rotate_left
  ·rw[if_neg h2]at h;cases h
  rw[if_pos h2]at h
  by_cases h3:x.n=y.n
  rotate_left
  ·rw[if_neg h3]at h;cases h
  rw[if_pos h3]at h
  by_cases h4:x.m=y.m
  rotate_left
  ·rw[if_neg h4]at h;cases h
  rw[if_pos h4]at h
  by_cases h5:x.var=y.var
  rotate_left
  ·rw[if_neg h5]at h;cases h
  rw[if_pos h5]at h
  by_cases h6:x.kids.length=y.kids.length
  rotate_left
  ·rw[if_neg h6]at h;cases h
  rw[if_pos h6]at h
  have key:∀m i,x.kids.length-i=m->∃o,F.f163 x y i=some o/\(o=.go ()->∀j,i<=j->∀(a:j<x.kids.length) (b:j<y.kids.length),x.kids[j]=y.kids[j])/\o≠.ret true:=by
   intro m
   induction m with
   |zero=>intro i hi;rw[F.f163,if_neg (by omega)];exact⟨_,rfl,fun _ j hj a=>by omega,by simp⟩
   |succ m ihm=>
    intro i hi
    have a:i<x.kids.length:=by omega
    have b:i<y.kids.length:=by omega
    obtain⟨v,e1,_⟩:=P.YH x.kids[i] y.kids[i]
    rw[F.f163,if_pos a,gQ a,gQ b]
    simp only[oE,oS,e1]
    cases v with
    |true=>
     rw[if_pos rfl]
     obtain⟨o,g1,g2,g3⟩:=ihm (i+1) (by omega)
     refine⟨o,g1,fun ho j hj a' b'=> ?_,g3⟩
     by_cases ej:j=i
     ·subst ej;exact ih _ (gM a) _ e1
     ·exact g2 ho j (by omega) a' b'
    |false=>exact⟨_,rfl,fun ho=>by simp at ho,by simp⟩
  obtain⟨o,e1,e2,e3⟩:=key _ 0 rfl
  rw[e1]at h
  simp only[oE,oS]at h
  cases o with
  |ret b=>cases b with
   |true=>exact absurd rfl e3
   |false=>cases h
  |go u=>
   have hk:x.kids=y.kids:=List.ext_getElem h6 fun j a b=>e2 rfl j (Nat.zero_le _) a b
   exact(ZGO x).symm.trans (by rw[h1,h2,h3,h4,h5,hk];exact ZGO y)
def ZL1 (p:Pattern)(i:Nat):Pattern:=p.kids.getD i ZA9
theorem ZAT {p:Pattern}{i:Nat}(h:i<p.kids.length):ZL1 p i=p.kids[i]:=by simp[ZL1,h]
def mtK (f:Pattern->Value->Option (List Bind)):List Pattern->List Value->Option (List Bind)
 | [],_=>some []
 |_::_,[]=>none
 |p::ps,v::vs=>(f p v).bind fun a=>(mtK f ps vs).bind fun b=>some (a++b)
noncomputable def mt :Nat->Pattern->Value->Option (List Bind)
 |0,_,_=>none
 |d+1,p,v=>
  if p.op=1 then some []else if p.op=2 then some [⟨p.var,v⟩]
  else if p.op=3 then(if p.n<=v.n/\v.n<=p.m then some []else none)
  else if p.op=5 then(mt d (ZL1 p 0) v).or (mt d (ZL1 p 1) v)
  else if p.op=6 then(mt d (ZL1 p 0) v).map (fun l=>⟨p.var,v⟩::l)
  else if p.ctor=v.ctor then mtK (mt d) p.kids v.kids else none
theorem ZDW {f g:Pattern->Value->Option (List Bind)}:∀{qs ps:List Pattern} {vs:List Value},qs.length=ps.length->(∀i (h1:i<qs.length) (h2:i<ps.length) (h3:i<vs.length),f qs[i] vs[i]=g ps[i] vs[i])->mtK f qs vs=mtK g ps vs
 | [],[],vs,_,_=>by simp[mtK]
 | [],_::_,_,h,_=>by simp at h
 |_::_,[],_,h,_=>by simp at h
 |q::qs,p::ps,[],_,_=>by simp[mtK]
 |q::qs,p::ps,v::vs,h,hh=>by
  have h0:=hh 0 (by simp) (by simp) (by simp)
  have hr:=ZDW (f:=f) (g:=g) (qs:=qs) (ps:=ps) (vs:=vs) (by simpa using h) fun i a b c=>by
   have:=hh (i+1) (by simpa using a) (by simpa using b) (by simpa using c)
   simpa using this
  simp only[List.getElem_cons_zero]at h0
  rw[mtK,mtK,h0,hr]
theorem ZGV {f:Pattern->Value->Option (List Bind)}:∀{ps:List Pattern} {vs:List Value},vs.length=ps.length->(∀i (h1:i<ps.length) (h2:i<vs.length),f ps[i] vs[i]=some [])->mtK f ps vs=some []
 | [],_,_,_=>by simp[mtK]
 |_::_,[],h,_=>by simp at h
 |p::ps,v::vs,h,hh=>by
  have h0:=hh 0 (by simp) (by simp)
  have hr:=ZGV (f:=f) (ps:=ps) (vs:=vs) (by simpa using h) fun i a b=>by
   have:=hh (i+1) (by simpa using a) (by simpa using b)
   simpa using this
  simp only[List.getElem_cons_zero]at h0
  rw[mtK,h0,hr];rfl
theorem ZFV (d:Nat){p:Pattern}(h:p.op=1)(v:Value):mt (d+1) p v=some []:=by rw[mt,if_pos h]
theorem ZJb {w:List Data}:∀{d:Nat} {t:Ty} {p:Pattern} (v:Value),ZN w d t p->mt (d+1) p v=mt d p v
 |0,t,p,v,h=>h.elim
 |d+1,t,p,v,h=>by
  obtain⟨ho,hl,hk⟩:=h
  have kk:∀i (h:i<p.kids.length) (v:Value),mt (d+1) p.kids[i] v=mt d p.kids[i] v:=fun i h v=>ZJb v (hk i (Nat.zero_le _) (by omega) (by omega) h)
  have own:=ho
  unfold ZAW at own
  conv=>lhs;rw[mt]
  conv=>rhs;rw[mt]
  split
  ·rfl
  split
  ·rfl
  split
  ·rfl
  split
  ·next h5=>
   have e5:=ZW ho h5
   have l2:p.kids.length=2:=by rw[hl,e5];rfl
   rw[ZAT (by omega),ZAT (by omega),kk,kk]
  split
  ·next h6=>
   have e6:ZG w t p=[t]:=by unfold ZG;rw[if_neg (by omega),if_neg (by omega),if_pos h6]
   have l1:p.kids.length=1:=by rw[hl,e6];rfl
   rw[ZAT (by omega),kk]
  split
  ·exact ZDW rfl fun i h1 h2 h3=>kk i h1 _
  ·rfl
theorem ZLq {w:List Data}{e:Nat}{t:Ty}{v:Value}(h:pv w false e t v)(ht:t.data= -1):0<=v.n/\v.n<=9:=by
 cases e with
 |zero=>exact h.elim
 |succ e=>
  rcases h with h|⟨_,h|h⟩
  ·simp at h
  ·exact⟨h.2.2.1,h.2.2.2.1⟩
  ·exact absurd ht h.1
theorem ZDN {w:List Data}{e:Nat}{t:Ty}{v:Value}(h:pv w false e t v)(ht:t.data≠-1):v.ctor∈ZJ w t/\v.kids.length=(ZI w t v.ctor).length/\∀i (h:i<(ZI w t v.ctor).length) (h':i<v.kids.length),∃e',pv w false e' (ZI w t v.ctor)[i] v.kids[i]:=by
 cases e with
 |zero=>exact h.elim
 |succ e=>
  rcases h with h|⟨_,h|h⟩
  ·simp at h
  ·exact absurd h.1 ht
  ·exact⟨h.2.2.1,h.2.2.2.1,fun i h1 h2=>⟨e,h.2.2.2.2 i (Nat.zero_le _) h1 h1 h2⟩⟩
theorem ZHR {f:Ty×Pattern->List VarType}{g:Pattern->Value->Option (List Bind)}:∀{ts:List Ty} {ps:List Pattern} {vs:List Value} {l:List Bind},ts.length=ps.length->
  (∀i (h1:i<ts.length) (h2:i<ps.length) (h3:i<vs.length) (l:List Bind),g ps[i] vs[i]=some l->(∀x,x∈l->∃y,y∈f (ts[i],ps[i])/\y.var=x.var)/\(l.map Bind.var).Nodup)->
  ZEp ((ts.zip ps).flatMap f)->mtK g ps vs=some l->(∀x,x∈l->∃y,y∈(ts.zip ps).flatMap f/\y.var=x.var)/\(l.map Bind.var).Nodup
 | [],[],vs,l,_,_,_,h=>by simp[mtK]at h;subst h;simp
 | [],_::_,_,_,h,_,_,_=>by simp at h
 |_::_,[],_,_,h,_,_,_=>by simp at h
 |t::ts,p::ps,[],l,_,_,_,h=>by simp[mtK]at h
 |t::ts,p::ps,v::vs,l,hl,hh,hn,h=>by
  rw[List.zip_cons_cons,List.flatMap_cons]at hn ⊢
  unfold ZEp at hn
  rw[List.map_append,List.nodup_append]at hn
  obtain⟨n1,n2,n3⟩:=hn
  rw[mtK]at h
  cases ha:g p v with
  |none=>rw[ha]at h;cases h
  |some a=>
   cases hb:mtK g ps vs with
   |none=>rw[ha,hb]at h;cases h
   |some b=>
    rw[ha,hb]at h
    obtain rfl:a++b=l:=by simpa using h
    have h0:=hh 0 (by simp) (by simp) (by simp) a ha
    have hr:=ZHR (f:=f) (g:=g) (ts:=ts) (ps:=ps) (vs:=vs) (l:=b) (by simpa using hl) (fun i h1 h2 h3 l e=>by
     have:=hh (i+1) (by simpa using h1) (by simpa using h2) (by simpa using h3) l (by simpa using e)
     simpa using this) n2 hb
    simp only[List.getElem_cons_zero]at h0
    refine⟨fun x hx=> ?_,?_⟩
    ·rcases List.mem_append.1 hx with hx|hx
     ·obtain⟨y,hy,e⟩:=h0.1 x hx;exact⟨y,List.mem_append.2 (.inl hy),e⟩
     ·obtain⟨y,hy,e⟩:=hr.1 x hx;exact⟨y,List.mem_append.2 (.inr hy),e⟩
    ·rw[List.map_append,List.nodup_append]
     refine⟨h0.2,hr.2,fun i hi j hj e=> ?_⟩
     obtain⟨x,hx,rfl⟩:=List.mem_map.1 hi
     obtain⟨z,hz,rfl⟩:=List.mem_map.1 hj
     obtain⟨y,hy,e1⟩:=h0.1 x hx
     obtain⟨y',hy',e2⟩:=hr.1 z hz
     exact n3 y.var (List.mem_map_of_mem hy) y'.var (List.mem_map_of_mem hy') (by rw[e1,e2,e])
theorem ZCc {w:List Data}:∀{d:Nat} {t:Ty} {p:Pattern} {v:Value} {l:List Bind},ZN w d t p->ZBy w d t p->mt d p v=some l->(∀x,x∈l->∃y,y∈ZM w d t p/\y.var=x.var)/\(l.map Bind.var).Nodup
 |0,t,p,v,l,hs,_,_=>hs.elim
 |d+1,t,p,v,l,hs,hlin,h=>by
  have hs':=hs
  obtain⟨ho,hl,hk⟩:=hs
  obtain⟨l1,l2⟩:=hlin
  have own:=ho
  unfold ZAW at own
  rw[mt]at h
  by_cases h1:p.op=1
  ·rw[if_pos h1]at h;cases h;simp
  rw[if_neg h1]at h
  by_cases h2:p.op=2
  ·rw[if_pos h2]at h;cases h
   refine⟨fun x hx=>⟨⟨p.var,t⟩,?_,by rw[List.mem_singleton.1 hx]⟩,by simp⟩
   rw[ZM,if_pos (.inl h2)];simp
  rw[if_neg h2]at h
  by_cases h3:p.op=3
  ·rw[if_pos h3]at h
   split at h
   ·cases h;simp
   ·cases h
  rw[if_neg h3]at h
  by_cases h5:p.op=5
  ·rw[if_pos h5]at h
   rw[if_pos h5]at l2
   have e5:=ZW ho h5
   have hl2:p.kids.length=2:=by rw[hl,e5];rfl
   have t0:(ZG w t p)[0]'(by rw[e5];simp)=t:=by simp[e5]
   have t1:(ZG w t p)[1]'(by rw[e5];simp)=t:=by simp[e5]
   have s0:=hk 0 (Nat.zero_le _) (by rw[e5];simp) (by rw[e5];simp) (by omega)
   have s1:=hk 1 (Nat.zero_le _) (by rw[e5];simp) (by rw[e5];simp) (by omega)
   have n0:=l1 0 (Nat.zero_le _) (by rw[e5];simp) (by rw[e5];simp) (by omega)
   have n1:=l1 1 (Nat.zero_le _) (by rw[e5];simp) (by rw[e5];simp) (by omega)
   rw[t0]at s0 n0
   rw[t1]at s1 n1
   rw[ZAT (by omega),ZAT (by omega)]at h
   rw[ZAi ho h5 (by omega)]
   cases h0:mt d (p.kids[0]'(by omega)) v with
   |some a=>
    rw[h0]at h;obtain rfl:a=l:=by simpa using h
    exact ZCc s0 n0 h0
   |none=>
    rw[h0]at h
    obtain⟨g1,g2⟩:=ZCc s1 n1 (show mt d (p.kids[1]'(by omega)) v=some l by simpa using h)
    exact⟨fun x hx=>ZD9 (ZCG s0 n0) (l2 (by omega) (by omega)) (g1 x hx),g2⟩
  rw[if_neg h5]at h l2
  by_cases h6:p.op=6
  ·rw[if_pos h6]at h
   have e6:ZG w t p=[t]:=by unfold ZG;rw[if_neg (by omega),if_neg h5,if_pos h6]
   have hl1:p.kids.length=1:=by rw[hl,e6];rfl
   have t0:(ZG w t p)[0]'(by rw[e6];simp)=t:=by simp[e6]
   have s0:=hk 0 (Nat.zero_le _) (by rw[e6];simp) (by rw[e6];simp) (by omega)
   have n0:=l1 0 (Nat.zero_le _) (by rw[e6];simp) (by rw[e6];simp) (by omega)
   rw[t0]at s0 n0
   have hpv:ZM w (d+1) t p=⟨p.var,t⟩::ZM w d t (p.kids[0]'(by omega)):=by
    have e9:((([t]:List Ty).zip [p.kids[0]'(by omega)]).take ([p.kids[0]'(by omega)]:List Pattern).length).flatMap (fun x=>ZM w d x.1 x.2)=ZM w d t (p.kids[0]'(by omega)):=by simp
    rw[←ZDA hl1]at e9
    rw[ZM,if_pos (.inr h6),if_neg h5,e6,e9];rfl
   rw[ZAT (by omega)]at h
   rw[hpv]at l2 ⊢
   unfold ZEp at l2
   rw[List.map_cons,List.nodup_cons]at l2
   cases h0:mt d (p.kids[0]'(by omega)) v with
   |none=>rw[h0]at h;cases h
   |some a=>
    rw[h0]at h
    obtain rfl:⟨p.var,v⟩::a=l:=by simpa using h
    obtain⟨g1,g2⟩:=ZCc s0 n0 h0
    refine⟨fun x hx=> ?_,?_⟩
    ·rcases List.mem_cons.1 hx with rfl|hx
     ·exact⟨_,List.mem_cons_self ..,rfl⟩
     ·obtain⟨y,hy,e⟩:=g1 x hx;exact⟨y,List.mem_cons_of_mem _ hy,e⟩
    ·rw[List.map_cons,List.nodup_cons]
     refine⟨fun hm=>l2.1 ?_,g2⟩
     obtain⟨x,hx,e⟩:=List.mem_map.1 hm
     obtain⟨y,hy,e2⟩:=g1 x hx
     exact List.mem_map.2 ⟨y,hy,by rw[e2,e]⟩
  rw[if_neg h6]at h
  have h4:p.op=4:=by omega
  have hpv:ZM w (d+1) t p=((ZG w t p).zip p.kids).flatMap fun x=>ZM w d x.1 x.2:=by
   rw[ZM,if_neg (by omega),if_neg h5,List.take_of_length_le (by simp;omega)];rfl
  split at h
  ·rw[hpv]at l2 ⊢
   exact ZHR hl.symm (fun i h1 h2 h3 l e=>ZCc (hk i (Nat.zero_le _) h1 h1 h2) (l1 i (Nat.zero_le _) h1 h1 h2) e) l2 h
  ·cases h
theorem P.YAs (w:List Data)(hw:ZO w)(d:Nat)(t:Ty)(ht:Zc w t)(a b q:Pattern)(hsa:ZN w d t a)(hsb:ZN w d t b)(hwa:a.wt<=1048576)(h:F.f167 w t a b=some q):
  (q=a/\(a=b∨a.op=1))∨(q=ZA9/\b.op=1/\ZM w d t a=[])∨
  (∃n m,q=Zd n m/\a.op=3/\b.op=3/\a.n<=b.m+1/\b.n<=a.m+1/\n<=a.n/\n<=b.n/\(n=a.n∨n=b.n)/\a.m<=m/\b.m<=m/\(m=a.m∨m=b.m))∨
  (q=ZA9/\a.op=4/\b.op=4/\ZAM a.kids/\ZAM b.kids/\a.ctor≠b.ctor/\(ZJ w t).length=2)∨q=⟨5,0,0,0,0,[a,b]⟩:=by
 obtain⟨bS,s1,_⟩:=P.YH a b
 have hvars:F.f74 [] w t a=some (ZM w d t a):=by rw[P.YE w hw d t a [] ht hsa (by simp;omega)];rfl
 have hc1:=P.YB w hw t (ZAA ht.1)
 have hb:b.op=1->b=ZA9:=fun e=>ZHe hsb e
 generalize hG:((q=a/\(a=b∨a.op=1))∨(q=ZA9/\b.op=1/\ZM w d t a=[])∨
  (∃n m,q=Zd n m/\a.op=3/\b.op=3/\a.n<=b.m+1/\b.n<=a.m+1/\n<=a.n/\n<=b.n/\(n=a.n∨n=b.n)/\a.m<=m/\b.m<=m/\(m=a.m∨m=b.m))∨
  (q=ZA9/\a.op=4/\b.op=4/\ZAM a.kids/\ZAM b.kids/\a.ctor≠b.ctor/\(ZJ w t).length=2)∨q=⟨5,0,0,0,0,[a,b]⟩)=G
 have cOr:some (⟨5,0,0,0,0,[a,b]⟩:Pattern)=some q->G:=fun e=>by rw[←hG];exact .inr (.inr (.inr (.inr (Option.some.inj e).symm)))
 unfold F.f167 F.f164 at h
 simp only[s1,P.YA,P.YF,hvars,F.f160,hc1,oE,oS,decide_eq_true_eq,Zs]at h
 by_cases c0:bS=true
 ·rw[if_pos c0]at h;rw[←hG];exact .inl ⟨(Option.some.inj h).symm,.inl (P.YAA a b (by rw[s1,c0]))⟩
 rw[if_neg c0]at h
 by_cases c1:a.op=1
 ·rw[if_pos c1]at h;rw[←hG];exact .inl ⟨(Option.some.inj h).symm,.inr c1⟩
 rw[if_neg c1]at h
 have tail1:(if b.op=1 then(if(ZM w d t a).length=0 then some b else some (⟨5,0,0,0,0,[a,b]⟩:Pattern))else some (⟨5,0,0,0,0,[a,b]⟩:Pattern))=some q->G:=by
  intro h
  by_cases e1:b.op=1
  ·rw[if_pos e1]at h
   by_cases e2:(ZM w d t a).length=0
   ·rw[if_pos e2]at h;rw[←hG];exact .inr (.inl ⟨(Option.some.inj h).symm.trans (hb e1),e1,List.length_eq_zero_iff.1 e2⟩)
   ·rw[if_neg e2]at h;exact cOr h
  ·rw[if_neg e1]at h;exact cOr h
 by_cases c3:a.op=3
 ·rw[if_pos c3]at h
  by_cases c4:b.op=3
  ·rw[if_pos c4]at h
   obtain⟨_,q1,q2,q3⟩:=ZCw hsa c3
   obtain⟨_,r1,r2,r3⟩:=ZCw hsb c4
   rw[show i64.wrap (b.m+1)=b.m+1 from ZF (by omega) (by omega),show i64.wrap (a.m+1)=a.m+1 from ZF (by omega) (by omega)]at h
   by_cases c5:a.n<=b.m+1
   ·rw[if_pos c5]at h
    by_cases c6:b.n<=a.m+1
    ·rw[if_pos c6]at h
     have rg:∀{n m:Int},some (Zd n m)=some q->n<=a.n->n<=b.n->(n=a.n∨n=b.n)->a.m<=m->b.m<=m->(m=a.m∨m=b.m)->G:=fun e g1 g2 g3 g4 g5 g6=>by
      rw[←hG];exact .inr (.inr (.inl ⟨_,_,(Option.some.inj e).symm,c3,c4,c5,c6,g1,g2,g3,g4,g5,g6⟩))
     by_cases c7:b.n<a.n
     ·rw[if_pos c7]at h
      by_cases c8:a.m<b.m
      ·rw[if_pos c8]at h;exact rg h (by omega) (by omega) (.inr rfl) (by omega) (by omega) (.inr rfl)
      ·rw[if_neg c8]at h;exact rg h (by omega) (by omega) (.inr rfl) (by omega) (by omega) (.inl rfl)
     ·rw[if_neg c7]at h
      by_cases c8:a.m<b.m
      ·rw[if_pos c8]at h;exact rg h (by omega) (by omega) (.inl rfl) (by omega) (by omega) (.inr rfl)
      ·rw[if_neg c8]at h;exact rg h (by omega) (by omega) (.inl rfl) (by omega) (by omega) (.inl rfl)
    ·rw[if_neg c6]at h;exact tail1 h
   ·rw[if_neg c5]at h;exact tail1 h
  ·rw[if_neg c4]at h;exact tail1 h
 rw[if_neg c3]at h
 have tail2:(if a.op=4 then(if b.op=4 then(if dec (ZAM a.kids)=true then(if dec (ZAM b.kids)=true then(if a.ctor=b.ctor then some (⟨5,0,0,0,0,[a,b]⟩:Pattern)else(if(ZJ w t).length=2 then some (⟨1,0,0,0,0,[]⟩:Pattern)else some (⟨5,0,0,0,0,[a,b]⟩:Pattern)))else some (⟨5,0,0,0,0,[a,b]⟩:Pattern))else some (⟨5,0,0,0,0,[a,b]⟩:Pattern))else some (⟨5,0,0,0,0,[a,b]⟩:Pattern))else some (⟨5,0,0,0,0,[a,b]⟩:Pattern))=some q->G:=by
  intro h
  by_cases e1:a.op=4
  ·rw[if_pos e1]at h
   by_cases e2:b.op=4
   ·rw[if_pos e2]at h
    by_cases e3:dec (ZAM a.kids)=true
    ·rw[if_pos e3]at h
     by_cases e4:dec (ZAM b.kids)=true
     ·rw[if_pos e4]at h
      by_cases e5:a.ctor=b.ctor
      ·rw[if_pos e5]at h;exact cOr h
      ·rw[if_neg e5]at h
       by_cases e6:(ZJ w t).length=2
       ·rw[if_pos e6]at h;rw[←hG];exact .inr (.inr (.inr (.inl ⟨(Option.some.inj h).symm,e1,e2,Zs.1 e3,Zs.1 e4,e5,e6⟩)))
       ·rw[if_neg e6]at h;exact cOr h
     ·rw[if_neg e4]at h;exact cOr h
    ·rw[if_neg e3]at h;exact cOr h
   ·rw[if_neg e2]at h;exact cOr h
  ·rw[if_neg e1]at h;exact cOr h
 by_cases e1:b.op=1
 ·rw[if_pos e1]at h
  by_cases e2:(ZM w d t a).length=0
  ·rw[if_pos e2]at h;rw[←hG];exact .inr (.inl ⟨(Option.some.inj h).symm.trans (hb e1),e1,List.length_eq_zero_iff.1 e2⟩)
  ·rw[if_neg e2]at h;exact tail2 h
 ·rw[if_neg e1]at h;exact tail2 h
theorem ZDV {w:List Data}{d:Nat}{t:Ty}{p:Pattern}(hs:ZN w d t p)(h:p.op=1)(v:Value):mt d p v=some []:=by
 cases d with
 |zero=>exact hs.elim
 |succ d=>exact ZFV d h v
theorem ZJa {w:List Data}{d e:Nat}{t:Ty}{p:Pattern}{v:Value}(hs:ZN w d t p)(h4:p.op=4)(hw:ZAM p.kids)(hv:pv w false e t v)(hc:p.ctor=v.ctor):mt d p v=some []:=by
 cases d with
 |zero=>exact hs.elim
 |succ d=>
  obtain⟨ho,hl,hk⟩:=hs
  have hct:p.ctor∈ZJ w t:=by unfold ZAW at ho;rcases ho with h|h|h|h|h|h<;>first|exact h.2.2.2.2|omega
  have e4:ZG w t p=ZI w t p.ctor:=by unfold ZG;rw[if_pos h4]
  obtain⟨_,k2,_⟩:=ZDN hv (ZT hct).1
  rw[mt,if_neg (by omega),if_neg (by omega),if_neg (by omega),if_neg (by omega),if_neg (by omega),if_pos hc]
  exact ZGV (by rw[k2,hl,e4,hc]) fun i h1 h2=>ZDV (hk i (Nat.zero_le _) (by omega) (by omega) h1) (hw i h1) _
theorem ZMr {d:Nat}{p:Pattern}{v:Value}(h4:p.op=4)(hc:p.ctor≠v.ctor):mt d p v=none:=by
 cases d with
 |zero=>rfl
 |succ d=>rw[mt,if_neg (by omega),if_neg (by omega),if_neg (by omega),if_neg (by omega),if_neg (by omega),if_neg hc]
theorem ZHQ (d:Nat){p:Pattern}(h:p.op=3)(v:Value):mt (d+1) p v=if p.n<=v.n/\v.n<=p.m then some []else none:=by
 rw[mt,if_neg (by omega),if_neg (by omega),if_pos h]
theorem ZHP (d:Nat){n m:Int}{v:Value}(h0:0<=v.n)(h9:v.n<=9):mt (d+1) (Zd n m) v=if n<=v.n/\v.n<=m then some []else none:=by
 unfold Zd
 split
 ·next h=>rw[ZFV d rfl,if_pos (by omega)]
 ·rw[ZHQ d rfl]
theorem ZAc {w:List Data}{t:Ty}{q:Pattern}(h:q=ZA9∨∃n m,q=Zd n m):F.f168 w t q=some q:=by
 have ha:F.f168 w t ZA9=some ZA9:=by
  rw[F.f168,if_neg (show ¬ZA9.op=3 by decide),if_neg (show ¬ZA9.op=5 by decide),if_neg (show ¬ZA9.op=6 by decide),if_neg (show ¬ZA9.op=4 by decide)]
 rcases h with rfl|⟨n,m,rfl⟩
 ·exact ha
 ·unfold Zd
  split
  ·exact ha
  ·next hn=>
   rw[F.f168,if_pos (show(3:Int)=3 from rfl),P.YF]
   unfold Zd
   rw[if_neg hn];rfl
theorem P.YAn (w:List Data)(hw:ZO w):∀(d:Nat) (t:Ty) (p q:Pattern),Zc w t->ZN w d t p->ZBy w d t p->p.wt<=1048576->F.f168 w t p=some q->
  F.f168 w t q=some q/\∀e v,pv w false e t v->mt d q v=mt d p v
 |0,t,p,q,ht,hs,hl,hp,hq=>hs.elim
 |d+1,t,p,q,ht,hs,hl,hp,hq=>by
  obtain⟨qs,hql,hqk⟩:=P.Yz w hw d (P.YR w hw d) t p ht hs hl hp
  have hs':=hs
  obtain⟨ho,hlen,hk⟩:=hs'
  have hts:=ZAC hw ht ho
  have hwt:=p.wt_eq
  have tok:=ZAA ht.1
  have hl':=hl
  obtain⟨l1,l2⟩:=hl'
  have own:=ho
  unfold ZAW at own
  have IH:∀i (h1:i<(ZG w t p).length) (h2:i<p.kids.length) (h3:i<qs.length),F.f168 w (ZG w t p)[i] qs[i]=some qs[i]/\∀e v,pv w false e (ZG w t p)[i] v->mt d qs[i] v=mt d p.kids[i] v:=fun i h1 h2 h3=>by
   have hwi:=Zg Pattern.wt (gM h2)
   exact P.YAn w hw d _ _ _ (hts _ (gM h1)) (hk i (Nat.zero_le _) h1 h1 h2) (l1 i (Nat.zero_le _) h1 h1 h2) (by omega) (hqk i h1 h2 h3).1
  have shq:∀i (h1:i<(ZG w t p).length) (h3:i<qs.length),ZN w d (ZG w t p)[i] qs[i]:=fun i h1 h3=>(hqk i h1 (by omega) h3).2.2.1
  have hq0:=hq
  rw[F.f168]at hq
  by_cases h3:p.op=3
  ·rw[if_pos h3,P.YF]at hq
   simp only[oE,oS]at hq
   cases hq
   refine⟨ZAc (.inr ⟨_,_,rfl⟩),fun e v hv=> ?_⟩
   obtain⟨g1,_⟩:=ZCw hs h3
   obtain⟨v0,v9⟩:=ZLq hv g1
   rw[ZHP d v0 v9,ZHQ d h3]
  rw[if_neg h3]at hq
  by_cases h5:p.op=5
  ·rw[if_pos h5]at hq
   have e5:=ZW ho h5
   have hl2:p.kids.length=2:=by rw[hlen,e5];rfl
   have t0:(ZG w t p)[0]'(by rw[e5];simp)=t:=by simp[e5]
   have t1:(ZG w t p)[1]'(by rw[e5];simp)=t:=by simp[e5]
   have g0:=(hqk 0 (by rw[e5];simp) (by omega) (by omega)).1
   have g1:=(hqk 1 (by rw[e5];simp) (by omega) (by omega)).1
   obtain⟨a1,a2⟩:=IH 0 (by rw[e5];simp) (by omega) (by omega)
   obtain⟨b1,b2⟩:=IH 1 (by rw[e5];simp) (by omega) (by omega)
   have sa:=shq 0 (by rw[e5];simp) (by omega)
   have sb:=shq 1 (by rw[e5];simp) (by omega)
   have wa:=(hqk 0 (by rw[e5];simp) (by omega) (by omega)).2.2.2.2.2
   have wk:=Zg Pattern.wt (gM (l:=p.kids) (n:=0) (by omega))
   have k0:=hk 0 (Nat.zero_le _) (by rw[e5];simp) (by rw[e5];simp) (by omega)
   have n0:=l1 0 (Nat.zero_le _) (by rw[e5];simp) (by rw[e5];simp) (by omega)
   rw[t0]at a1 a2 g0 sa k0 n0
   rw[t1]at b1 b2 g1 sb
   have na:=(P.Yy w hw d t _ _ ht k0 n0 (by omega) g0).2.1
   rw[gQ (by omega),gQ (by omega)]at hq
   simp only[oE,oS]at hq
   rw[g0,g1]at hq
   simp only[oS]at hq
   have hq2:F.f167 w t (qs[0]'(by omega)) (qs[1]'(by omega))=some q:=by
    cases hz:F.f167 w t (qs[0]'(by omega)) (qs[1]'(by omega))with
    |none=>rw[hz]at hq;cases hq
    |some z=>rw[hz]at hq;exact hq
   have mp:∀e v,pv w false e t v->mt (d+1) p v=(mt d (qs[0]'(by omega)) v).or (mt d (qs[1]'(by omega)) v):=fun e v hv=>by
    rw[mt,if_neg (by omega),if_neg (by omega),if_neg (by omega),if_pos h5,ZAT (by omega),ZAT (by omega),a2 e v hv,b2 e v hv]
   rcases P.YAs w hw d t ht _ _ _ sa sb (by omega) hq2 with⟨rfl,e⟩|⟨rfl,e1,e2⟩|⟨n,m,rfl,f1,f2,f3⟩|⟨rfl,f1,f2,f3,f4,f5,f6⟩|e
   ·refine⟨a1,fun z v hv=> ?_⟩
    rw[mp z v hv,ZJb v sa]
    rcases e with e|e
    ·rw[←e];cases mt d (qs[0]'(by omega)) v<;>rfl
    ·rw[ZDV sa e];rfl
   ·refine⟨ZAc (.inl rfl),fun z v hv=> ?_⟩
    rw[mp z v hv,ZFV d rfl,ZDV sb e1]
    cases ha:mt d (qs[0]'(by omega)) v with
    |none=>rfl
    |some l=>
     have:=(ZCc sa na ha).1
     rw[e2]at this
     cases l with
     |nil=>rfl
     |cons x r=>obtain⟨y,hy,_⟩:=this x (List.mem_cons_self ..);cases hy
   ·refine⟨ZAc (.inr ⟨_,_,rfl⟩),fun z v hv=> ?_⟩
    obtain⟨q0,q1,q2,q3⟩:=ZCw sa f1
    obtain⟨_,r1,r2,r3⟩:=ZCw sb f2
    obtain⟨v0,v9⟩:=ZLq hv q0
    cases d with
    |zero=>exact sa.elim
    |succ d=>
     rw[mp z v hv,ZHP _ v0 v9,ZHQ d f1,ZHQ d f2]
     by_cases c1:(qs[0]'(by omega)).n<=v.n/\v.n<=(qs[0]'(by omega)).m
     ·rw[if_pos c1,if_pos (by omega)];rfl
     ·rw[if_neg c1]
      by_cases c2:(qs[1]'(by omega)).n<=v.n/\v.n<=(qs[1]'(by omega)).m
      ·rw[if_pos c2,if_pos (by omega)];rfl
      ·rw[if_neg c2,if_neg (by omega)];rfl
   ·refine⟨ZAc (.inl rfl),fun z v hv=> ?_⟩
    rw[mp z v hv,ZFV d rfl]
    have ca:(qs[0]'(by omega)).ctor∈ZJ w t:=by
     cases d with
     |zero=>exact sa.elim
     |succ d=>have:=sa.1;unfold ZAW at this;rcases this with h|h|h|h|h|h<;>first|exact h.2.2.2.2|omega
    have cb:(qs[1]'(by omega)).ctor∈ZJ w t:=by
     cases d with
     |zero=>exact sb.elim
     |succ d=>have:=sb.1;unfold ZAW at this;rcases this with h|h|h|h|h|h<;>first|exact h.2.2.2.2|omega
    have cv:=(ZDN hv (ZT ca).1).1
    have two:∀{l:List Int} {x y z:Int},l.length=2->x∈l->y∈l->x≠y->z∈l->x=z∨y=z:=by
     intro l x y z hl hx hy hn hz
     match l,hl with
     | [a,b],_=>
      simp only[List.mem_cons,List.not_mem_nil,or_false]at hx hy hz
      omega
    rcases two f6 ca cb f5 cv with c|c
    ·rw[ZJa sa f1 f3 hv c];rfl
    ·rw[ZMr f1 (by omega),ZJa sb f2 f4 hv c];rfl
   ·rw[e]
    refine⟨?_,fun z v hv=> ?_⟩
    ·rw[F.f168,if_neg (show ¬(5:Int)=3 by decide),if_pos (show(5:Int)=5 from rfl)]
     simp only[List.getElem?_cons_zero,List.getElem?_cons_succ,oE,oS,a1,b1,hq2,e]
    ·rw[mp z v hv,mt,if_neg (show ¬(5:Int)=1 by decide),if_neg (show ¬(5:Int)=2 by decide),if_neg (show ¬(5:Int)=3 by decide),if_pos (show(5:Int)=5 from rfl)]
     rfl
  rw[if_neg h5]at hq
  by_cases h6:p.op=6
  ·rw[if_pos h6]at hq
   have e6:ZG w t p=[t]:=by unfold ZG;rw[if_neg (by omega),if_neg h5,if_pos h6]
   have hl1:p.kids.length=1:=by rw[hlen,e6];rfl
   have t0:(ZG w t p)[0]'(by rw[e6];simp)=t:=by simp[e6]
   have g0:=(hqk 0 (by rw[e6];simp) (by omega) (by omega)).1
   obtain⟨a1,a2⟩:=IH 0 (by rw[e6];simp) (by omega) (by omega)
   have sa:=shq 0 (by rw[e6];simp) (by omega)
   rw[t0]at a1 a2 g0 sa
   rw[gQ (by omega)]at hq
   simp only[oE,oS]at hq
   rw[g0]at hq
   unfold F.f164 at hq
   simp only[oS,decide_eq_true_eq]at hq
   have mp:∀e v,pv w false e t v->mt (d+1) p v=(mt d (qs[0]'(by omega)) v).map (fun l=>⟨p.var,v⟩::l):=fun e v hv=>by
    rw[mt,if_neg (by omega),if_neg (by omega),if_neg (by omega),if_neg h5,if_pos h6,ZAT (by omega),a2 e v hv]
   split at hq
   ·next hop=>
    cases hq
    refine⟨?_,fun z v hv=> ?_⟩
    ·rw[F.f168,if_neg (show ¬(2:Int)=3 by decide),if_neg (show ¬(2:Int)=5 by decide),if_neg (show ¬(2:Int)=6 by decide),if_neg (show ¬(2:Int)=4 by decide)]
    ·rw[mp z v hv,ZDV sa hop,mt,if_neg (show ¬(2:Int)=1 by decide),if_pos (show(2:Int)=2 from rfl)];rfl
   ·next hop=>
    cases hq
    refine⟨?_,fun z v hv=> ?_⟩
    ·rw[F.f168,if_neg (show ¬(6:Int)=3 by decide),if_neg (show ¬(6:Int)=5 by decide),if_pos (show(6:Int)=6 from rfl)]
     simp only[List.getElem?_cons_zero,oE,oS,a1,F.f164,decide_eq_true_eq]
     rw[if_neg hop]
    ·rw[mp z v hv,mt,if_neg (show ¬(6:Int)=1 by decide),if_neg (show ¬(6:Int)=2 by decide),if_neg (show ¬(6:Int)=3 by decide),if_neg (show ¬(6:Int)=5 by decide),if_pos (show(6:Int)=6 from rfl)]
     rfl
  rw[if_neg h6]at hq
  by_cases h4:p.op=4
  ·rw[if_pos h4]at hq
   have e4:ZG w t p=ZI w t p.ctor:=by unfold ZG;rw[if_pos h4]
   have hct:p.ctor∈ZJ w t:=by rcases own with h|h|h|h|h|h<;>first|exact h.2.2.2.2|omega
   have hkl:=ZAb Pattern.wt p.kids
   have hloop:∀(p':Pattern) (ks:List Pattern),p'.kids=ks->ks.length=qs.length->(∀i (h1:i<(ZG w t p).length) (h2:i<ks.length) (h:i<qs.length),F.f168 w (ZG w t p)[i] ks[i]=some qs[i])->F.f169 w t p' (ZI w t p.ctor) [] 0=some qs:=by
    intro p' ks hks hl3 hh
    subst hks
    have:=ZCN (qs:=qs) (L:=fun out i=>F.f169 w t p' (ZI w t p.ctor) out i) (fun out i h=>by
      show F.f169 w t p' (ZI w t p.ctor) out i=_
      rw[F.f169,if_neg (by rw[←e4];omega)])
     (fun out i h ho=>by
      show F.f169 w t p' (ZI w t p.ctor) out i=_
      have h2:i<p'.kids.length:=by omega
      have h1:i<(ZG w t p).length:=by omega
      have hqi:=hh i h1 h2 h
      rw[F.f169,←e4,if_pos h1,gQ h2,gQ h1]
      simp only[oE,oS,hqi]
      rw[if_pos ho]) _ 0 [] rfl (by simp;omega)
    simpa using this
   have hloop2:=hloop p p.kids rfl hql.symm fun i h1 h2 h=>(hqk i h1 h2 h).1
   have hloop3:=hloop (⟨4,p.ctor,0,0,0,qs⟩:Pattern) qs rfl rfl fun i h1 h2 h=>(IH i h1 (by omega) h).1
   rw[P.YC w hw t tok _ hct]at hq
   simp only[oE,oS,hloop2,P.YB w hw t tok,P.YA,F.f160]at hq
   have mp:∀e v,pv w false e t v->mt (d+1) p v=if p.ctor=v.ctor then mtK (mt d) qs v.kids else none:=fun e v hv=>by
    obtain⟨v1,v2,v3⟩:=ZDN hv (ZT hct).1
    rw[mt,if_neg (by omega),if_neg (by omega),if_neg h3,if_neg h5,if_neg h6]
    split
    ·next hc=>
     refine ZDW hql.symm fun i h1 h2 h3=> ?_
     have h1':i<(ZG w t p).length:=by omega
     obtain⟨e',he⟩:=v3 i (by rw[←hc,←e4];exact h1') h3
     have et:(ZI w t v.ctor)[i]'(by rw[←hc,←e4];exact h1')=(ZG w t p)[i]:=by simp only[e4,hc]
     rw[et]at he
     exact((IH i h1' h1 h2).2 e' _ he).symm
    ·rfl
   have good:F.f168 w t ⟨4,p.ctor,0,0,0,qs⟩=(if(ZJ w t).length=1 then(if dec (ZAM qs)=true then some ZA9 else some ⟨4,p.ctor,0,0,0,qs⟩)else some ⟨4,p.ctor,0,0,0,qs⟩):=by
    rw[F.f168,if_neg (show ¬(4:Int)=3 by decide),if_neg (show ¬(4:Int)=5 by decide),if_neg (show ¬(4:Int)=6 by decide),if_pos (show(4:Int)=4 from rfl)]
    show(F.f45 w t p.ctor>>=_)=_
    rw[P.YC w hw t tok _ hct]
    simp only[oE,oS,hloop3,P.YB w hw t tok,P.YA,F.f160]
    rfl
   have mq:∀v,mt (d+1) ⟨4,p.ctor,0,0,0,qs⟩ v=if p.ctor=v.ctor then mtK (mt d) qs v.kids else none:=fun v=>by
    rw[mt,if_neg (show ¬(4:Int)=1 by decide),if_neg (show ¬(4:Int)=2 by decide),if_neg (show ¬(4:Int)=3 by decide),if_neg (show ¬(4:Int)=5 by decide),if_neg (show ¬(4:Int)=6 by decide)]
   by_cases c1:(ZJ w t).length=1
   ·by_cases c2:ZAM qs
    ·rw[if_pos c1,if_pos (ZH c2)]at hq
     obtain rfl:ZA9=q:=Option.some.inj hq
     refine⟨ZAc (.inl rfl),fun z v hv=> ?_⟩
     obtain⟨v1,v2,v3⟩:=ZDN hv (ZT hct).1
     have hc:p.ctor=v.ctor:=by
      match hL:ZJ w t,c1 with
      | [a],_=>
       rw[hL]at hct v1
       rw[List.mem_singleton.1 hct,List.mem_singleton.1 v1]
     rw[mp z v hv,if_pos hc,ZFV d rfl]
     exact(ZGV (by rw[v2,hql,hlen,e4,hc]) fun i h1 h2=>ZDV (shq i (by omega) h1) (c2 i h1) _).symm
    ·rw[if_pos c1,if_neg (by rw[ZE c2];simp)]at hq
     obtain rfl:=Option.some.inj hq
     exact⟨by rw[good,if_pos c1,if_neg (by rw[ZE c2];simp)],fun z v hv=>by rw[mp z v hv,mq]⟩
   ·rw[if_neg c1]at hq
    obtain rfl:=Option.some.inj hq
    exact⟨by rw[good,if_neg c1],fun z v hv=>by rw[mp z v hv,mq]⟩
  ·rw[if_neg h4]at hq
   cases hq
   exact⟨hq0,fun _ _ _=>rfl⟩
theorem P.Ye (v:Value)(hv:v.wt<=67108864):F.f188 v=some v:=by
 induction v using Value.ind with
 |_ v ih=>
  have hw:=v.wt_eq
  rw[F.f188,ZBw (a:=v.kids) (g:=id) (f:=F.f188) (L:=F.f189 v) (fun out i=>by rw[F.f189]) (fun x hx=>ih x hx (by have:=Zg Value.wt hx;omega)) _ 0 [] rfl (by have:=ZAb Value.wt v.kids;simp;omega)]
  simp
  cases v;rfl
noncomputable def ZBB (w:List Data):Nat->Ty->Nat
 |0,_=>0
 |d+1,t=>if t.data= -1 then 10 else((ZJ w t).map fun c=>Zr ((ZI w t c).map (ZBB w d))).sum
theorem ZFM :∀(a b:List Nat),Zr (a++b)=Zr a*Zr b
 | [],b=>by simp[Zr]
 |x::a,b=>by simp[Zr,ZFM a b,Nat.mul_assoc]
theorem ZLN (n a:Nat):(if 401<i64.wrap (((min n 401:Nat):Int)*((min a 401:Nat):Int))then 401 else i64.wrap (((min n 401:Nat):Int)*((min a 401:Nat):Int)))=((min (n*a) 401:Nat):Int):=by
 have hb:min n 401*min a 401<=401*401:=Nat.mul_le_mul (by omega) (by omega)
 have hw:i64.wrap (((min n 401:Nat):Int)*((min a 401:Nat):Int))=((min n 401*min a 401:Nat):Int):=by
  rw[←Int.natCast_mul,ZF (by omega) (by omega)]
 rw[hw,←ZMs]
 generalize min n 401*min a 401=z
 split<;>omega
theorem ZLO (n a:Nat):(if 401<i64.wrap (((min n 401:Nat):Int)+((min a 401:Nat):Int))then 401 else i64.wrap (((min n 401:Nat):Int)+((min a 401:Nat):Int)))=((min (n+a) 401:Nat):Int):=by
 have hw:i64.wrap (((min n 401:Nat):Int)+((min a 401:Nat):Int))=((min n 401+min a 401:Nat):Int):=by rw[ZF (by omega) (by omega)];omega
 rw[hw,←ZMt]
 split<;>omega
theorem P.YI (w:List Data)(hw:ZO w):∀(d:Nat) (t:Ty),tOk w t->d<=100->F.f173 w t (d:Int)=some ((min (ZBB w d t) 401:Nat):Int)
 |0,t,ht,hd=>by rw[F.f173,if_pos (by omega)];rfl
 |d+1,t,ht,hd=>by
  rw[F.f173,if_neg (by omega)]
  by_cases h1:t.data= -1
  ·rw[if_pos h1,ZBB,if_pos h1];rfl
  rw[if_neg h1,P.YG w hw t ht,ZBB,if_neg h1]
  simp only[oE,oS]
  have hlen:=ZDJ hw ht
  have inner:∀(a1:Nat) (a2:Int) (as:List Ty),(∀a,a∈as->tOk w a)->∀(m i n:Nat),as.length-i=m->F.f175 w t ((d+1:Nat):Int) (ZJ w t) a1 a2 as ((min n 401:Nat):Int) i=some ((min (n*Zr ((as.drop i).map (ZBB w d))) 401:Nat):Int):=by
   intro a1 a2 as ha m
   induction m with
   |zero=>intro i n hm;rw[F.f175,if_neg (by omega),List.drop_eq_nil_of_le (by omega)];simp[Zr]
   |succ m ihm=>
    intro i n hm
    have hi:i<as.length:=by omega
    rw[F.f175,if_pos hi,gQ hi]
    simp only[oE,oS]
    rw[ZF (by omega) (by omega),show((d+1:Nat):Int) -1=(d:Int) by omega,P.YI w hw d _ (ha _ (gM hi)) (by omega)]
    simp only[oS]
    rw[ZLN,ihm (i+1) _ (by omega),List.drop_eq_getElem_cons hi,List.map_cons,Zr,Nat.mul_assoc]
  have outer:∀(m i n:Nat),(ZJ w t).length-i=m->F.f174 w t ((d+1:Nat):Int) (ZJ w t) i ((min n 401:Nat):Int)=some ((min (n+(((ZJ w t).drop i).map fun c=>Zr ((ZI w t c).map (ZBB w d))).sum) 401:Nat):Int):=by
   intro m
   induction m with
   |zero=>intro i n hm;rw[F.f174,if_neg (by omega),List.drop_eq_nil_of_le (by omega)];simp
   |succ m ihm=>
    intro i n hm
    have hi:i<(ZJ w t).length:=by omega
    have hc:=gM hi
    rw[F.f174,if_pos hi,gQ hi]
    simp only[oE,oS]
    rw[P.YJ w hw t ht _ hc]
    simp only[oS]
    have e1:F.f175 w t ((d+1:Nat):Int) (ZJ w t) i ((min n 401:Nat):Int) (ZI w t (ZJ w t)[i]) 1 0=some ((min (1*Zr (((ZI w t (ZJ w t)[i]).drop 0).map (ZBB w d))) 401:Nat):Int):=inner i _ _ (ZDj hw ht hc).2 _ 0 1 rfl
    rw[e1]
    simp only[oS,Nat.one_mul,List.drop_zero]
    rw[if_pos (by omega),ZLO,ihm (i+1) _ (by omega),List.drop_eq_getElem_cons hi,List.map_cons,List.sum_cons,Nat.add_assoc]
  have e0:F.f174 w t ((d+1:Nat):Int) (ZJ w t) 0 0=_:=outer _ 0 0 rfl
  rw[e0]
  simp
theorem P.YAg (w:List Data)(t:Ty)(z:Int)(v13:List Int)(a:Nat)(o16:List Value)(x:Int)(v21:List Ty)(list:List Value)(b:Nat)(v34:List Value)(c:Nat)(x40:Value)(W:Nat)(hW:W<=1000000)(hk:∀k,k∈v34->x40.wt+(1+k.wt)<=W)(hx:x40.wt<=W):
  ∀(m i:Nat) (more:List Value),v34.length-i=m->more.length+m<=1000000->(∀q,q∈more->q.wt<=W)->∃r,F.f183 w t z v13 a o16 x v21 list b v34 c x40 more i=some r/\r.length=more.length+m/\∀q,q∈r->q.wt<=W:=by
 have hl:=ZAb Value.wt x40.kids
 have hwt:=x40.wt_eq
 intro m
 induction m with
 |zero=>intro i more hm hb hq;rw[F.f183,if_neg (by omega)];exact⟨more,rfl,rfl,hq⟩
 |succ m ih=>
  intro i more hm hb hq
  have hi:i<v34.length:=by omega
  rw[F.f183,if_pos hi,gQ hi]
  unfold F.f181
  rw[if_pos (by omega)]
  simp only[oE,oS]
  rw[if_pos (by omega),if_pos (by omega)]
  obtain⟨r,e1,e2,e3⟩:=ih (i+1) (more++[⟨x,0,x40.kids++[v34[i]]⟩]) (by omega) (by simp;omega) (fun q h=>by
   rcases List.mem_append.1 h with h|h
   ·exact hq q h
   ·rw[List.mem_singleton.1 h,Value.wt_eq]
    have:=hk _ (gM hi)
    have e:wtL Value.wt (x40.kids++[v34[i]])=wtL Value.wt x40.kids+(1+v34[i].wt):=by
     have:∀l:List Value,wtL Value.wt (l++[v34[i]])=wtL Value.wt l+(1+v34[i].wt):=by
      intro l
      induction l with
      |nil=>simp
      |cons a r ih=>rw[List.cons_append,ZBR,ZBR,ih];omega
     exact this _
    show wtL Value.wt (x40.kids++[v34[i]])<=W
    omega)
  exact⟨r,e1,by rw[e2];simp;omega,e3⟩
theorem P.YAh (w:List Data)(t:Ty)(z:Int)(v13:List Int)(a:Nat)(o16:List Value)(x:Int)(v21:List Ty)(list:List Value)(b:Nat)(v34:List Value)(W:Nat)(hW:W<=1000000)(hk:∀y,y∈list->y.wt<=W/\∀k,k∈v34->y.wt+(1+k.wt)<=W)(hn:list.length<=1000)(hv:v34.length<=1000):
  ∀(m i:Nat) (more:List Value),list.length-i=m->more.length+m*v34.length<=1000000->(∀q,q∈more->q.wt<=W)->∃r,F.f184 w t z v13 a o16 x v21 list b v34 more i=some r/\r.length=more.length+m*v34.length/\∀q,q∈r->q.wt<=W:=by
 intro m
 induction m with
 |zero=>intro i more hm hb hq;rw[F.f184,if_neg (by omega)];exact⟨more,rfl,by simp,hq⟩
 |succ m ih=>
  intro i more hm hb hq
  have hi:i<list.length:=by omega
  rw[Nat.succ_mul]at hb ⊢
  obtain⟨h1,h2⟩:=hk _ (gM hi)
  obtain⟨r,e1,e2,e3⟩:=P.YAg w t z v13 a o16 x v21 list b v34 i list[i] W hW h2 h1 _ 0 more rfl (by omega) hq
  rw[F.f184,if_pos hi,gQ hi]
  simp only[oE,oS,e1]
  rw[if_pos (by omega)]
  obtain⟨r',f1,f2,f3⟩:=ih (i+1) r (by omega) (by omega) e3
  exact⟨r',f1,by omega,f3⟩
theorem ZIw (d:Nat):1<=6^d:=Nat.pos_of_ne_zero (by simp)
theorem P.Yo (w:List Data)(hw:ZO w):∀(d:Nat) (t:Ty),tOk w t->d<=4->ZBB w d t<=400->∃l,F.f185 w t (d:Int)=some l/\l.length<=ZBB w d t/\∀v,v∈l->v.wt<=6^d
 |0,t,ht,hd,hc=>⟨[],by rw[F.f185,if_pos (by omega)],Nat.zero_le _,by simp⟩
 |d+1,t,ht,hd,hc=>by
  rw[F.f185,if_neg (by omega)]
  have p1:=ZIw (d+1)
  have p2:=ZIw d
  have p6:(6:Nat)^ (d+1)=6*6^d:=by rw[Nat.pow_succ];omega
  have p7:(6:Nat)^d<=6^4:=Nat.pow_le_pow_right (by omega) (by omega)
  have p8:(6:Nat)^4=1296:=by decide
  by_cases h1:t.data= -1
  ·rw[if_pos h1]
   rw[ZBB,if_pos h1]at hc ⊢
   have key:∀(m i:Nat) (out:List Value),10-i=m->out.length=i->i<=10->(∀v,v∈out->v.wt<=6^ (d+1))->∃r,F.f182 i out=some r/\r.length<=10/\∀v,v∈r->v.wt<=6^ (d+1):=by
    intro m
    induction m with
    |zero=>intro i out hm ho hi hq;rw[F.f182,if_neg (by omega)];exact⟨out,rfl,by omega,hq⟩
    |succ m ih=>
     intro i out hm ho hi hq
     rw[F.f182,if_pos (by omega)]
     unfold F.f176
     simp only[oE,oS]
     rw[if_pos (by omega),if_pos (by omega)]
     exact ih (i+1) _ (by omega) (by simp;omega) (by omega) fun v h=>by
      rcases List.mem_append.1 h with h|h
      ·exact hq v h
      ·rw[List.mem_singleton.1 h,Value.wt_eq];show wtL Value.wt []<=_;simp
   obtain⟨r,e1,e2,e3⟩:=key _ 0 [] rfl rfl (by omega) (by simp)
   rw[e1]
   exact⟨r,rfl,e2,e3⟩
  rw[if_neg h1,P.YG w hw t ht]
  rw[ZBB,if_neg h1]at hc ⊢
  simp only[oE,oS]
  have hlen:=ZDJ hw ht
  -- the arguments of one constructor
  have inner:∀(c:Int) (o16:List Value) (a:Nat),c∈ZJ w t->(∀x,x∈(ZI w t c).map (ZBB w d)->1<=x)->Zr ((ZI w t c).map (ZBB w d))<=400->
    ∀(m i:Nat) (list:List Value),(ZI w t c).length-i=m->i<=(ZI w t c).length->list.length<=Zr (((ZI w t c).map (ZBB w d)).take i)->(∀v,v∈list->v.wt<=i*(1+6^d))->
    ∃r,F.f187 w t ((d+1:Nat):Int) (ZJ w t) a o16 c (ZI w t c) list i=some r/\r.length<=Zr ((ZI w t c).map (ZBB w d))/\∀v,v∈r->v.wt<=6^ (d+1):=by
   intro c o16 a hcm hpos hle m
   obtain⟨a3,ha⟩:=ZDj hw ht hcm
   induction m with
   |zero=>
    intro i list hm hi hl hq
    rw[F.f187,if_neg (by omega)]
    refine⟨list,rfl,?_,fun v h=> ?_⟩
    ·rw[List.take_of_length_le (by simp;omega)]at hl;exact hl
    ·have:=hq v h
     have h3:i*(1+6^d)<=3*(1+6^d):=Nat.mul_le_mul_right _ (by omega)
     omega
   |succ m ih=>
    intro i list hm hi hl hq
    have hi':i<(ZI w t c).length:=by omega
    have hi2:i<((ZI w t c).map (ZBB w d)).length:=by simpa using hi'
    have hone:=hpos _ (gM hi2)
    have ht1:=ZEE hpos i
    have ht2:=ZEE hpos (i+1)
    have et:Zr (((ZI w t c).map (ZBB w d)).take (i+1))=Zr (((ZI w t c).map (ZBB w d)).take i)*ZBB w d (ZI w t c)[i]:=by
     rw[List.take_succ,ZFM,gQ hi2]
     simp[Zr]
    have hp1:1<=Zr (((ZI w t c).map (ZBB w d)).take i):=ZCB fun x hx=>hpos x (List.mem_of_mem_take hx)
    have hcn:ZBB w d (ZI w t c)[i]<=400:=by
     have:1*ZBB w d (ZI w t c)[i]<=Zr (((ZI w t c).map (ZBB w d)).take i)*ZBB w d (ZI w t c)[i]:=Nat.mul_le_mul_right _ hp1
     omega
    obtain⟨kids,k1,k2,k3⟩:=P.Yo w hw d _ (ha _ (gM hi')) (by omega) hcn
    rw[F.f187,if_pos hi',gQ hi']
    simp only[oE,oS]
    rw[ZF (by omega) (by omega),show((d+1:Nat):Int) -1=(d:Int) by omega,k1]
    simp only[oS]
    have e1i:(i+1)*(1+6^d)=i*(1+6^d)+(1+6^d):=Nat.succ_mul _ _
    have h3:(i+1)*(1+6^d)<=3*(1+6^d):=Nat.mul_le_mul_right _ (by omega)
    have hlk:list.length*kids.length<=Zr (((ZI w t c).map (ZBB w d)).take i)*ZBB w d (ZI w t c)[i]:=Nat.mul_le_mul hl k2
    obtain⟨r,e1,e2,e3⟩:=P.YAh w t ((d+1:Nat):Int) (ZJ w t) a o16 c (ZI w t c) list i kids ((i+1)*(1+6^d)) (by omega) (fun y hy=>by
     have:=hq y hy
     exact⟨by omega,fun k hk=>by have:=k3 k hk;omega⟩) (by omega) (by omega) _ 0 [] rfl (by simp;omega) (by simp)
    rw[e1]
    simp only[oS]
    rw[if_pos (by omega)]
    exact ih (i+1) r (by omega) (by omega) (by rw[e2,et];simp;omega) e3
  have skip:∀(c:Int),c∈ZJ w t->F.f180 (ZI w t c) w ((d+1:Nat):Int)=some (dec (∃a,a∈ZI w t c/\ZBB w d a=0)):=by
   intro c hcm
   obtain⟨_,ha⟩:=ZDj hw ht hcm
   have one:∀a,a∈ZI w t c->F.f177 a w ((d+1:Nat):Int)=some (dec (ZBB w d a=0)):=by
    intro a hm
    unfold F.f177
    rw[ZF (by omega) (by omega),show((d+1:Nat):Int) -1=(d:Int) by omega,P.YI w hw d a (ha a hm) (by omega)]
    simp only[oE,oS]
    rw[←ZAL];congr 1;refine ZS ?_;omega
   unfold F.f180 F.f179
   rw[ZLC (a:=ZI w t c) (p:=fun a=>ZBB w d a=0) (L:=F.f178 (ZI w t c) w ((d+1:Nat):Int)) (fun k hk=>by rw[F.f178,if_neg (by omega)])
    (fun k hk hp=>by
     rw[F.f178,if_pos hk,gQ hk]
     simp only[oE,oS,one _ (gM hk)]
     rw[if_neg (by rw[ZE hp];simp)])
    (fun k hk hp=>by
     rw[F.f178,if_pos hk,gQ hk]
     simp only[oE,oS,one _ (gM hk)]
     rw[if_pos (by rw[ZH hp])]) _ 0 rfl,List.drop_zero]
   cases h:ZF4 (fun a=>ZBB w d a=0) 0 (ZI w t c)with
   |none=>
    simp only[oE,oS]
    rw[ZE fun⟨a,hm,e⟩=>ZAt h a hm e];simp
   |some j=>
    obtain⟨_,h2,h3,_⟩:=ZAs h
    simp only[oE,oS]
    rw[ZH ⟨_,gM h2,h3⟩];simp
  have outer:∀(m i:Nat) (out:List Value),(ZJ w t).length-i=m->out.length+(((ZJ w t).drop i).map fun c=>Zr ((ZI w t c).map (ZBB w d))).sum<=400->(∀v,v∈out->v.wt<=6^ (d+1))->
    ∃r,F.f186 w t ((d+1:Nat):Int) (ZJ w t) i out=some r/\r.length<=out.length+(((ZJ w t).drop i).map fun c=>Zr ((ZI w t c).map (ZBB w d))).sum/\∀v,v∈r->v.wt<=6^ (d+1):=by
   intro m
   induction m with
   |zero=>intro i out hm hb hq;rw[F.f186,if_neg (by omega)];exact⟨out,rfl,by omega,hq⟩
   |succ m ih=>
    intro i out hm hb hq
    have hi:i<(ZJ w t).length:=by omega
    have hcm:=gM hi
    rw[List.drop_eq_getElem_cons hi]at hb ⊢
    simp only[List.map_cons,List.sum_cons]at hb ⊢
    rw[F.f186,if_pos hi,gQ hi]
    simp only[oE,oS]
    rw[P.YJ w hw t ht _ hcm]
    simp only[oS]
    rw[skip _ hcm]
    simp only[oS]
    by_cases hz:∃a,a∈ZI w t (ZJ w t)[i]/\ZBB w d a=0
    ·rw[if_pos (ZH hz)]
     obtain⟨r,e1,e2,e3⟩:=ih (i+1) out (by omega) (by omega) hq
     exact⟨r,e1,by omega,e3⟩
    ·rw[if_neg (by rw[ZE hz];simp)]
     obtain⟨r,e1,e2,e3⟩:=inner _ out i hcm (fun x hx=>by
      obtain⟨a,ha,rfl⟩:=List.mem_map.1 hx
      rcases Nat.eq_zero_or_pos (ZBB w d a)with h|h
      ·exact absurd ⟨a,ha,h⟩ hz
      ·exact h) (by omega) _ 0 [⟨(ZJ w t)[i],0,[]⟩] rfl (by omega) (by simp[Zr]) (fun v hv=>by
       rw[List.mem_singleton.1 hv,Value.wt_eq];show wtL Value.wt []<=_;simp)
     rw[e1]
     simp only[oS]
     rw[if_pos (by omega),if_pos (by omega)]
     obtain⟨r',f1,f2,f3⟩:=ih (i+1) (out++r) (by omega) (by rw[List.length_append];omega) (fun v h=>by
      rcases List.mem_append.1 h with h|h
      ·exact hq v h
      ·exact e3 v h)
     exact⟨r',f1,by rw[List.length_append]at f2;omega,f3⟩
  obtain⟨r,e1,e2,e3⟩:=outer _ 0 [] rfl (by simpa using hc) (by simp)
  rw[e1]
  exact⟨r,rfl,by simpa using e2,e3⟩
theorem P.Ys (w:List Data)(hw:ZAF w)(t:Ty)(d:Nat)(hd:d<=4):∃l b,F.f191 w t (d:Int)=some (l,b)/\l.length<=400/\∀v,v∈l->v.wt<=1296:=by
 unfold F.f191
 rw[P.Ya w t hw]
 simp only[oE,oS]
 by_cases h:ZAP w t
 ·rw[if_pos (ZH h),P.YL]
  simp only[oS]
  rw[if_pos (ZH (by omega)),P.YI w h.1 d t (ZAA h.2.1) (by omega)]
  simp only[oS]
  by_cases hc:400<ZBB w d t
  ·rw[if_pos (by omega)];exact⟨_,_,rfl,by simp,by simp⟩
  ·rw[if_neg (by omega)]
   obtain⟨l,e1,e2,e3⟩:=P.Yo w h.1 d t (ZAA h.2.1) hd (by omega)
   have p7:(6:Nat)^d<=6^4:=Nat.pow_le_pow_right (by omega) (by omega)
   have p8:(6:Nat)^4=1296:=by decide
   rw[e1]
   simp only[oS]
   rw[ZBw (a:=l) (g:=id) (f:=F.f188) (L:=fun out i=>F.f190 l i out) (fun out i=>by
    show F.f190 l i out=_
    rw[F.f190]) (fun x hx=>P.Ye x (by have:=e3 x hx;omega)) _ 0 [] rfl (by simp;omega)]
   refine⟨l,true,by simp,by omega,fun v hv=>by have:=e3 v hv;omega⟩
 ·rw[if_neg (by rw[ZE h];simp)];exact⟨_,_,rfl,by simp,by simp⟩
theorem ZL0 {g:Pattern->Value->Option (List Bind)}{W:Nat}:∀{ps:List Pattern} {vs:List Value} {l:List Bind},(∀i (h2:i<ps.length) (h3:i<vs.length) (l:List Bind),g ps[i] vs[i]=some l->∀x,x∈l->x.value.wt<=W)->mtK g ps vs=some l->∀x,x∈l->x.value.wt<=W
 | [],vs,l,_,h=>by simp[mtK]at h;subst h;simp
 |p::ps,[],l,_,h=>by simp[mtK]at h
 |p::ps,v::vs,l,hh,h=>by
  rw[mtK]at h
  cases ha:g p v with
  |none=>rw[ha]at h;cases h
  |some a=>
   cases hb:mtK g ps vs with
   |none=>rw[ha,hb]at h;cases h
   |some b=>
    rw[ha,hb]at h
    obtain rfl:a++b=l:=by simpa using h
    have h0:=hh 0 (by simp) (by simp) a ha
    have hr:=ZL0 (g:=g) (ps:=ps) (vs:=vs) (l:=b) (fun i h2 h3 l e=>by
     have:=hh (i+1) (by simpa using h2) (by simpa using h3) l (by simpa using e)
     exact this) hb
    intro x hx
    rcases List.mem_append.1 hx with hx|hx
    ·exact h0 x hx
    ·exact hr x hx
theorem ZJZ :∀(d:Nat) {p:Pattern} {v:Value} {l:List Bind},mt d p v=some l->∀x,x∈l->x.value.wt<=v.wt
 |0,p,v,l,h=>by cases h
 |d+1,p,v,l,h=>by
  rw[mt]at h
  split at h
  ·cases h;simp
  split at h
  ·cases h;intro x hx;rw[List.mem_singleton.1 hx];exact Nat.le_refl _
  split at h
  ·split at h
   ·cases h;simp
   ·cases h
  split at h
  ·cases h0:mt d (ZL1 p 0) v with
   |some a=>
    rw[h0]at h;obtain rfl:a=l:=by simpa using h
    exact ZJZ d h0
   |none=>rw[h0]at h;exact ZJZ d (show mt d (ZL1 p 1) v=some l by simpa using h)
  split at h
  ·cases h0:mt d (ZL1 p 0) v with
   |none=>rw[h0]at h;cases h
   |some a=>
    rw[h0]at h
    obtain rfl:⟨p.var,v⟩::a=l:=by simpa using h
    intro x hx
    rcases List.mem_cons.1 hx with rfl|hx
    ·exact Nat.le_refl _
    ·exact ZJZ d h0 x hx
  split at h
  ·exact ZL0 (fun i h2 h3 l e x hx=>by
    have:=ZJZ d e x hx
    have:=ZJk (gM h3)
    omega) h
  ·cases h
theorem P.YN {w:List Data}:∀(d:Nat) (t:Ty) (p:Pattern) (e:Nat) (v:Value),ZN w d t p->pv w false e t v->p.wt<=1048576->∃l b,F.f196 p v=some (l,b)/\l.length<=1+p.wt/\(b=true->mt d p v=some l)/\(b=false->mt d p v=none)
 |0,t,p,e,v,hs,_,_=>hs.elim
 |d+1,t,p,e,v,hs,hv,hp=>by
  obtain⟨ho,hl,hk⟩:=hs
  have own:=ho
  unfold ZAW at own
  have hwt:=p.wt_eq
  have hsum:=ZEZ p
  rw[F.f196]
  by_cases h1:p.op=1
  ·rw[if_pos h1,mt,if_pos h1];exact⟨_,_,rfl,by simp,fun _=>rfl,fun h=>by cases h⟩
  rw[if_neg h1,mt,if_neg h1]
  by_cases h2:p.op=2
  ·rw[if_pos h2,if_pos h2];exact⟨_,_,rfl,by simp,fun _=>rfl,fun h=>by cases h⟩
  rw[if_neg h2,if_neg h2]
  by_cases h3:p.op=3
  ·rw[if_pos h3,if_pos h3,P.YL]
   refine⟨_,_,rfl,by simp,fun h=> ?_,fun h=> ?_⟩
   ·rw[if_pos (Zs.1 h)]
   ·rw[if_neg fun q=>by rw[ZH q]at h;cases h]
  rw[if_neg h3,if_neg h3]
  by_cases h5:p.op=5
  ·rw[if_pos h5,if_pos h5]
   have e5:=ZW ho h5
   have l2:p.kids.length=2:=by rw[hl,e5];rfl
   have t0:(ZG w t p)[0]'(by rw[e5];simp)=t:=by simp[e5]
   have t1:(ZG w t p)[1]'(by rw[e5];simp)=t:=by simp[e5]
   have s0:=hk 0 (Nat.zero_le _) (by rw[e5];simp) (by rw[e5];simp) (by omega)
   have s1:=hk 1 (Nat.zero_le _) (by rw[e5];simp) (by rw[e5];simp) (by omega)
   rw[t0]at s0
   rw[t1]at s1
   have w0:=Zg Pattern.wt (gM (l:=p.kids) (n:=0) (by omega))
   have w1:=Zg Pattern.wt (gM (l:=p.kids) (n:=1) (by omega))
   obtain⟨l,b,e1,e2,e3,e4⟩:=P.YN d t _ e v s0 hv (by omega)
   obtain⟨l',b',f1,f2,f3,f4⟩:=P.YN d t _ e v s1 hv (by omega)
   rw[ZAT (by omega),ZAT (by omega),gQ (by omega),gQ (by omega)]
   simp only[oE,oS,e1]
   cases b with
   |true=>rw[if_pos rfl,e3 rfl];exact⟨_,_,rfl,by show l.length<=_;omega,fun _=>rfl,fun h=>by cases h⟩
   |false=>
    rw[if_neg (by simp),f1,e4 rfl]
    exact⟨_,_,rfl,by show l'.length<=_;omega,fun h=>by rw[f3 h];rfl,fun h=>by rw[f4 h];rfl⟩
  rw[if_neg h5,if_neg h5]
  by_cases h6:p.op=6
  ·rw[if_pos h6,if_pos h6]
   have e6:ZG w t p=[t]:=by unfold ZG;rw[if_neg (by omega),if_neg h5,if_pos h6]
   have l1:p.kids.length=1:=by rw[hl,e6];rfl
   have t0:(ZG w t p)[0]'(by rw[e6];simp)=t:=by simp[e6]
   have s0:=hk 0 (Nat.zero_le _) (by rw[e6];simp) (by rw[e6];simp) (by omega)
   rw[t0]at s0
   have w0:=Zg Pattern.wt (gM (l:=p.kids) (n:=0) (by omega))
   obtain⟨l,b,e1,e2,e3,e4⟩:=P.YN d t _ e v s0 hv (by omega)
   rw[ZAT (by omega),gQ (by omega)]
   simp only[oE,oS,e1]
   rw[if_pos (by simp;omega)]
   exact⟨_,_,rfl,by simp;omega,fun h=>by rw[e3 h];rfl,fun h=>by rw[e4 h];rfl⟩
  rw[if_neg h6,if_neg h6]
  have h4:p.op=4:=by omega
  have e4:ZG w t p=ZI w t p.ctor:=by unfold ZG;rw[if_pos h4]
  have hct:p.ctor∈ZJ w t:=by rcases own with h|h|h|h|h|h<;>first|exact h.2.2.2.2|omega
  by_cases hc:p.ctor=v.ctor
  ·rw[if_pos hc,if_pos hc]
   obtain⟨v1,v2,v3⟩:=ZDN hv (ZT hct).1
   have hvl:v.kids.length=p.kids.length:=by rw[v2,hl,e4,hc]
   have key:∀(m i:Nat) (out:List Bind),p.kids.length-i=m->out.length+((p.kids.drop i).map fun k=>1+k.wt).sum<=67108864->
     ∃o,F.f197 p v out i=some o/\((∃r,o=.go (out++r)/\r.length<=((p.kids.drop i).map fun k=>1+k.wt).sum/\mtK (mt d) (p.kids.drop i) (v.kids.drop i)=some r)∨(o=.ret ([],false)/\mtK (mt d) (p.kids.drop i) (v.kids.drop i)=none)):=by
    intro m
    induction m with
    |zero=>
     intro i out hm hb
     rw[F.f197,if_neg (by omega),List.drop_eq_nil_of_le (as:=p.kids) (i:=i) (by omega)]
     exact⟨_,rfl,.inl ⟨[],by simp,by simp,by simp[mtK]⟩⟩
    |succ m ih=>
     intro i out hm hb
     have hi:i<p.kids.length:=by omega
     have hi':i<v.kids.length:=by omega
     have hit:i<(ZG w t p).length:=by omega
     rw[List.drop_eq_getElem_cons hi]at hb
     simp only[List.map_cons,List.sum_cons]at hb
     obtain⟨e',he⟩:=v3 i (by rw[←hc,←e4];exact hit) hi'
     have et:(ZI w t v.ctor)[i]'(by rw[←hc,←e4];exact hit)=(ZG w t p)[i]:=by simp only[e4,hc]
     rw[et]at he
     have wi:=Zg Pattern.wt (gM hi)
     obtain⟨l,b,e1,e2,e3,e4⟩:=P.YN d _ _ e' _ (hk i (Nat.zero_le _) hit hit hi) he (by omega)
     rw[F.f197,if_pos hi,gQ hi,gQ hi',List.drop_eq_getElem_cons hi,List.drop_eq_getElem_cons hi',mtK]
     simp only[oE,oS,e1,List.map_cons,List.sum_cons]
     cases b with
     |true=>
      rw[if_pos rfl,if_pos (by omega),e3 rfl]
      obtain⟨o,g1,g2⟩:=ih (i+1) (out++l) (by omega) (by rw[List.length_append];omega)
      refine⟨o,g1,?_⟩
      rcases g2 with⟨r,q1,q2,q3⟩|⟨q1,q2⟩
      ·refine .inl ⟨l++r,by rw[q1,List.append_assoc],by rw[List.length_append];omega,?_⟩
       rw[q3];rfl
      ·refine .inr ⟨q1,?_⟩
       rw[q2];rfl
     |false=>
      rw[if_neg (by simp),e4 rfl]
      exact⟨_,rfl,.inr ⟨rfl,rfl⟩⟩
   obtain⟨o,e1,e2⟩:=key _ 0 [] rfl (by simp at hsum ⊢;omega)
   rw[e1]
   rw[List.drop_zero,List.drop_zero]at e2
   rw[List.drop_zero]at hsum
   rcases e2 with⟨r,rfl,q2,q3⟩|⟨rfl,q2⟩
   ·exact⟨r,true,rfl,by omega,fun _=>q3,fun h=>by cases h⟩
   ·exact⟨[],false,rfl,by simp,(fun h=>by cases h),fun _=>q2⟩
  ·rw[if_neg hc,if_neg hc];exact⟨_,_,rfl,by simp,(fun h=>by cases h),fun _=>rfl⟩
noncomputable def mtR (d:Nat)(p:Pattern)(v:Value):List Bind×Bool:=match mt d p v with|some l=>(sortI Bind.var l,true)|none=>([],false)
theorem P.YAS {w:List Data}(d:Nat)(t:Ty)(p:Pattern)(e:Nat)(v:Value)(hs:ZN w d t p)(hl:ZBy w d t p)(hv:pv w false e t v)(hp:p.wt<=1048576)(hvw:v.wt<=1048576):F.f200 p v=some (mtR d p v):=by
 unfold F.f200 mtR
 obtain⟨l,b,e1,e2,e3,e4⟩:=P.YN d t p e v hs hv hp
 rw[e1]
 simp only[oE,oS]
 cases b with
 |false=>rw[if_neg (by simp),e4 rfl]
 |true=>
  have hm:=e3 rfl
  have hn:=(ZCc hs hl hm).2
  have hw:=ZJZ d hm
  rw[if_pos rfl,hm]
  unfold F.f198
  rw[if_pos ⟨hn,by omega⟩]
  simp only[oS]
  have hsl:(sortI (fun x:Bind=>x.var) l).length=l.length:=ZDH l
  have hsw:∀x,x∈sortI (fun x:Bind=>x.var) l->x.value.wt<=v.wt:=fun x hx=>hw x (ZFA.1 hx)
  have key:∀(s:List Bind),(∀x,x∈s->x.value.wt<=v.wt)->s.length<=2000000->∀m i,s.length-i=m->F.f199 s s i=some s:=by
   intro s hs1 hs2 m
   induction m with
   |zero=>intro i hm;rw[F.f199,if_neg (by omega)]
   |succ m ih=>
    intro i hm
    have hi:i<s.length:=by omega
    rw[F.f199,if_pos hi,gQ hi]
    simp only[oE,oS]
    have:=hs1 _ (gM hi)
    rw[P.Ye _ (by omega)]
    simp only[oS]
    rw[if_pos (by omega)]
    have e:s.set i ⟨s[i].var,s[i].value⟩=s:=List.set_getElem_self hi
    rw[e]
    exact ih (i+1) (by omega)
  rw[key _ hsw (by omega) _ 0 rfl]
  rfl
theorem P.YO (w:List Data)(hw:ZAF w)(t:Ty)(p:Pattern)(v:Value)(ht:ZAP w t)(hp:ZBa w t p)(hv:v.wt<=1048576):F.f201 w t p v=some (if dec (pv w false 10 t v/\1+v.wt<=60)=true then mtR 10 p v else([],false)):=by
 have h60:=hp.2.2
 unfold F.f201
 rw[P.YD w hw t p (by omega),ZH ⟨ht,hp⟩]
 simp only[oE,oS]
 rw[if_pos True.intro]
 unfold F.f195
 obtain⟨b,c,h1,h2,_⟩:=P.YAM w ht.1 false 10 t v 0 (by omega) (ZAA ht.2.1) (by omega)
 have h1':F.f192 w t v 1 false 0=some (b,(c:Int)):=h1
 rw[h1']
 simp only[oE,oS]
 cases b with
 |true=>
  obtain⟨q1,q2⟩:=h2.1 rfl
  rw[if_pos rfl,P.YAS 10 t p 10 v hp.1 hp.2.1 q1 (by omega) hv,if_pos (ZH ⟨q1,by omega⟩)]
  rfl
 |false=>
  rw[if_neg (by simp),if_neg]
  rw[ZE fun hh=>by have:=h2.2 ⟨hh.1,by have:=hh.2;omega⟩;cases this];simp
theorem P.YAQ (l:List Bind):F.f206 l l=some true:=by
 unfold F.f206
 rw[if_pos rfl]
 have key:∀m i,l.length-i=m->F.f205 l l i=some (.go ()):=by
  intro m
  induction m with
  |zero=>intro i hm;rw[F.f205,if_neg (by omega)]
  |succ m ih=>
   intro i hm
   have hi:i<l.length:=by omega
   rw[F.f205,if_pos hi,gQ hi]
   simp only[oE,oS]
   rw[if_pos True.intro,P.YAE _ _ _ (Nat.le_refl _),ZH rfl]
   simp only[oS]
   rw[if_pos True.intro]
   exact ih (i+1) (by omega)
 rw[key _ 0 rfl];rfl
theorem P.YY (w:List Data)(hw:ZAF w)(t:Ty)(p:Pattern)(hp:p.wt<=1048576):∃q b,F.f172 w t p=some (q,b)/\F.f156 w t p=some (q,b)/\(b=true->ZAP w t/\ZBa w t p/\ZBa w t q/\F.f156 w t q=some (q,true)/\∀e v,pv w false e t v->mt 10 q v=mt 10 p v):=by
 unfold F.f172 F.f156 F.f159
 rw[P.Yw w t hw,P.YD w hw t p hp]
 simp only[oE,oS]
 by_cases h:ZAP w t
 ·rw[if_pos (ZH h),P.YAN w h.1 t h.2 p hp]
  simp only[oS]
  by_cases hpk:ZBa w t p
  ·rw[if_pos (ZH hpk),if_pos (ZH ⟨h,hpk⟩)]
   obtain⟨q,e1,e2,s1,_,_,e3⟩:=P.YR w h.1 10 t p h.2 hpk.1 hpk.2.1 hp
   obtain⟨m1,m2,m3⟩:=P.Yy w h.1 10 t p q h.2 hpk.1 hpk.2.1 hp e1
   obtain⟨k1,k2⟩:=P.YAn w h.1 10 t p q h.2 hpk.1 hpk.2.1 hp e1
   have h60:=hpk.2.2
   obtain⟨q',g1,g2,_⟩:=P.YR w h.1 10 t q h.2 s1 m2 (by omega)
   obtain rfl:q=q':=Option.some.inj (k1.symm.trans g1)
   have hqk:ZBa w t q:=⟨s1,m2,by omega⟩
   rw[e1,e2]
   simp only[oS]
   rw[P.YAV q (by omega),P.YX q (by omega)]
   refine⟨q,true,rfl,rfl,fun _=>⟨h,hpk,hqk,?_,k2⟩⟩
   rw[P.YD w hw t q (by omega),ZH ⟨h,hqk⟩]
   simp only[oS]
   rw[if_pos True.intro,g2]
   simp only[oS]
   rw[P.YX q (by omega)]
   rfl
  ·rw[if_neg (by rw[ZE hpk];simp),if_neg (by rw[ZE fun q=>hpk q.2];simp)];exact⟨_,false,rfl,rfl,fun e=>by cases e⟩
 ·rw[if_neg (by rw[ZE h];simp),if_neg (by rw[ZE fun q=>h q.1];simp)];exact⟨_,false,rfl,rfl,fun e=>by cases e⟩
end Go.Vl
