/- A part of the proof. -/
import Derived.Test.YtkgcopogpmckdaaGreatSimplifySizeB1
set_option linter.all false
set_option maxRecDepth 100000
namespace Go.Vl
open Go Go.RowKit
open Go.IntKind (i64)
theorem P.Ya {p:Pattern}{L:List Int->Int->List Pattern->Nat->Int->Option ((List Int)×Int×(List Pattern)×Int)}
  (hL:∀z z12 out i next,L z z12 out i next=if i<p.kids.length then
   (p.kids[i]?)>>=fun x=>
   (F.f61 (⟨z,z12⟩:ZD) x next)>>=fun v17=>
   if out.length+1<=67108864 then
    L v17.2.2.f0 v17.2.2.f1 (out++[v17.1]) (i+1) v17.2.1
   else none
  else
   some (z,z12,out,next))
  (ih:∀k,k∈p.kids->∀(n:Int) (K:Nat) (r:ZD),0<=n->n<=7->rok K r->K+3*(1+k.wt)<=1099511627776->k.wt<=1048576->
   ∃p' n' r',F.f61 r k n=some (p',n',r')/\rok (K+3*(1+k.wt)) r'/\0<=n'/\n'<=7/\p'.wt+1<=2*(1+k.wt)):
  ∀(k K:Nat) (z:List Int) (z12:Int) (out:List Pattern) (next:Int),k<=p.kids.length->rok K ⟨z,z12⟩->K+3*wtL Pattern.wt (p.kids.drop (p.kids.length-k))<=1099511627776->wtL Pattern.wt p.kids<=1048576->out.length+k<=67108864->0<=next->next<=7->
   ∃z' z12' out' next',L z z12 out (p.kids.length-k) next=some (z',z12',out',next')/\rok (K+3*wtL Pattern.wt (p.kids.drop (p.kids.length-k))) ⟨z',z12'⟩/\0<=next'/\next'<=7/\
    wtL Pattern.wt out'<=wtL Pattern.wt out+2*wtL Pattern.wt (p.kids.drop (p.kids.length-k))
 |0,K,z,z12,out,next,hk,hr,hK,hb,ho,n0,n7=>by
  rw[hL,if_neg (by omega)]
  exact⟨z,z12,out,next,rfl,hr.mono (by omega),n0,n7,by omega⟩
 |k+1,K,z,z12,out,next,hk,hr,hK,hb,ho,n0,n7=>by
  have hi:p.kids.length- (k+1)<p.kids.length:=by omega
  have ei:p.kids.length- (k+1)+1=p.kids.length-k:=by omega
  have hd:p.kids.drop (p.kids.length- (k+1))=p.kids[p.kids.length- (k+1)]::p.kids.drop (p.kids.length-k):=by rw[List.drop_eq_getElem_cons hi,ei]
  have hm:=ZAE Pattern.wt (gM hi)
  rw[hd,ZDC]at hK ⊢
  obtain⟨p',n',r1,e1,h1,q1,q2,q3⟩:=ih _ (gM hi) next K ⟨z,z12⟩ n0 n7 hr (by omega) (by omega)
  obtain⟨z',z12',out',next',f1,f2,f3,f4,f5⟩:=P.Ya hL ih k _ r1.f0 r1.f1 (out++[p']) n' (by omega) h1 (by omega) hb (by simp;omega) q1 q2
  rw[hL,if_pos hi,gQ hi]
  simp only[oE,oS]
  rw[e1]
  simp only[oS]
  rw[if_pos (by omega),ei]
  refine⟨z',z12',out',next',f1,f2.mono (by omega),f3,f4,?_⟩
  have:wtL Pattern.wt (out++[p'])=wtL Pattern.wt out+(1+p'.wt):=by simp[wtL];omega
  omega
theorem P.YAo (p : Pattern) : ∀ (n : Int) (K : Nat) (r : ZD), 0 <= n -> n <= 7 -> rok K r -> K + 3 * (1 + p.wt) <= 1099511627776 -> p.wt <= 1048576 ->
   ∃p' n' r',F.f61 r p n=some (p',n',r')/\rok (K+3*(1+p.wt)) r'/\0<=n'/\n'<=7/\p'.wt+1<=2*(1+p.wt):=by
 induction p using Pattern.ind with
 |_ p ih=>
  intro n K r n0 n7 hr hK hb
  have hwt:=p.wt_eq
  have hlen:=ZA4 Pattern.wt p.kids
  have same:p.wt+1<=2*(1+p.wt):=by omega
  rw[F.f61]
  split
  ·exact⟨_,_,_,rfl,hr.mono (by omega),n0,n7,same⟩
  split
  ·exact⟨_,_,_,rfl,hr.mono (by omega),n0,n7,same⟩
  split
  ·exact⟨_,_,_,rfl,hr.mono (by omega),n0,n7,same⟩
  have tail:∀(K':Nat) (z':List Int) (z12':Int) (out':List Pattern) (next':Int),rok K' ⟨z',z12'⟩->K'+1<=K+3*(1+p.wt)->0<=next'->next'<=7->wtL Pattern.wt out'<=2*p.wt->
    ∃p' n' r',(if next'<=5 then
     (F.f1 (⟨z',z12'⟩:ZD) 6).bind fun v24=>
     if v24.1=0 then
      some ((⟨6,0,0,0,next',[(⟨p.op,p.ctor,p.n,p.m,p.var,out'⟩:Pattern)]⟩:Pattern),i64.wrap (next'+1),v24.2)
     else
      some ((⟨p.op,p.ctor,p.n,p.m,p.var,out'⟩:Pattern),next',v24.2)
    else
     some ((⟨p.op,p.ctor,p.n,p.m,p.var,out'⟩:Pattern),next',(⟨z',z12'⟩:ZD)))=some (p',n',r')/\rok (K+3*(1+p.wt)) r'/\0<=n'/\n'<=7/\p'.wt+1<=2*(1+p.wt):=by
   intro K' z' z12' out' next' hr' hK' m0 m7 hout
   have hown:(⟨p.op,p.ctor,p.n,p.m,p.var,out'⟩:Pattern).wt=wtL Pattern.wt out':=by rw[Pattern.wt_eq]
   split
   ·obtain⟨v,r1,e1,h1,a1,b1,_⟩:=P.YZ hr' (by omega) 6
    rw[e1]
    simp only[oS]
    have hwn:i64.wrap (next'+1)=next'+1:=ZF (by omega) (by omega)
    rw[hwn]
    split
    ·refine⟨_,_,_,rfl,h1.mono (by omega),by omega,by omega,?_⟩
     rw[ZLj,hown];omega
    ·refine⟨_,_,_,rfl,h1.mono (by omega),by omega,by omega,?_⟩
     rw[hown];omega
   ·refine⟨_,_,_,rfl,hr'.mono (by omega),m0,m7,?_⟩
    rw[hown];omega
  split
  ·obtain⟨v,r1,e1,h1,a1,b1,_⟩:=P.YZ hr (by omega) 2
   rw[e1]
   simp only[oE,oS]
   have hwn:i64.wrap (n+1)=n+1:=ZF (by omega) (by omega)
   split
   ·rw[hwn]
    exact⟨_,_,_,rfl,h1.mono (by omega),by omega,by omega,by rw[ZBi];omega⟩
   ·obtain⟨z',z12',out',next',f1,f2,f3,f4,f5⟩:=P.Ya (p:=p) (L:=F.f62 p n) (fun z z12 out i next=>by rw[F.f62]) ih p.kids.length _ r1.f0 r1.f1 [] n (Nat.le_refl _) h1 (by rw[Nat.sub_self,List.drop_zero];omega) (by omega) (by simp;omega) n0 n7
    rw[Nat.sub_self]at f1;rw[Nat.sub_self,List.drop_zero]at f2 f5
    rw[f1]
    simp only[oS]
    simp at f5
    exact tail _ z' z12' out' next' f2 (by omega) f3 f4 (by omega)
  ·obtain⟨z',z12',out',next',f1,f2,f3,f4,f5⟩:=P.Ya (p:=p) (L:=F.f63 p n) (fun z z12 out i next=>by rw[F.f63]) ih p.kids.length _ r.f0 r.f1 [] n (Nat.le_refl _) hr (by rw[Nat.sub_self,List.drop_zero];omega) (by omega) (by simp;omega) n0 n7
   rw[Nat.sub_self]at f1;rw[Nat.sub_self,List.drop_zero]at f2 f5
   rw[f1]
   simp only[oE,oS]
   simp at f5
   exact tail _ z' z12' out' next' f2 (by omega) f3 f4 (by omega)
theorem ZPG (w:List Data)(t:Ty):ZBr w t ⟨1,0,0,0,0,[]⟩:=by
 have hp:ZG w t ⟨1,0,0,0,0,[]⟩=[]:=by simp[ZG]
 refine⟨⟨.inl ⟨rfl,rfl,rfl,rfl,rfl⟩,by rw[hp];rfl,fun i _ h=>by rw[hp]at h;simp at h⟩,⟨fun i _ h=>by rw[hp]at h;simp at h,?_⟩,by rw[ZBi];omega⟩
 rw[if_neg (by simp)]
 simp[ZGB,ZK]
theorem P.YAf {w:List Data}(hw:ZQ w){t:Ty}(ht:Zg w t){K:Nat}{r:ZD}(hr:rok K r)(hK:K+20000<=1099511627776):∃p r',F.f86 r w t=some (p,r')/\rok (K+20000) r'/\ZBr w t p:=by
 unfold F.f86
 obtain⟨v,r1,e1,h1,hv⟩:=P.num hr (by omega) [3,2,4,1] (by simp)
 obtain⟨d,rfl,hd⟩:∃d:Nat,v=(d:Int)/\d<=4:=by
  simp at hv
  exact⟨v.toNat,by omega,by omega⟩
 have h8:8^d<=4096:=Nat.le_trans (Nat.pow_le_pow_right (n:=8) (by omega) hd) (by decide)
 obtain⟨p,r2,e2,h2,hp⟩:=P.YAg hw d t _ r1 ht (by omega) h1 (by omega)
 obtain⟨q,n,r3,e3,h3,_,_,hq⟩:=P.YAo p 0 _ r2 (by omega) (by omega) h2 (by omega) (by omega)
 rw[e1]
 simp only[oE,oS]
 rw[e2]
 simp only[oS]
 rw[e3]
 simp only[oS]
 rw[P.YAD w hw t ht q (by omega)]
 simp only[oS]
 by_cases h:ZBr w t q
 ·rw[if_pos (ZH h)]
  exact⟨_,_,rfl,h3.mono (by omega),h⟩
 ·rw[if_neg (by rw[ZE h];simp)]
  exact⟨_,_,rfl,h3.mono (by omega),ZPG w t⟩
theorem P.YAR {K:Nat}{r:ZD}(hr:rok K r)(hK:K+2<=1099511627776)(p:Pattern)(hp:p.wt<=1048576):∃p' r',F.f91 r p=some (p',r')/\rok (K+2) r'/\p'.wt<=p.wt+1:=by
 have hwt:=p.wt_eq
 have hlen:=ZA4 Pattern.wt p.kids
 have own:∀(a b c d e:Int) (ks:List Pattern),(⟨a,b,c,d,e,ks⟩:Pattern).wt=wtL Pattern.wt ks:=fun a b c d e ks=>by rw[Pattern.wt_eq]
 unfold F.f91
 rw[if_pos (by omega)]
 obtain⟨v,r1,e1,h1,_⟩:=P.YZ hr (by omega) 30
 rw[e1]
 simp only[oE,oS]
 split
 ·obtain⟨v2,r2,e2,h2,_⟩:=P.num h1 (by omega) [0,7,1,2,5] (by simp)
  rw[e2];exact⟨_,_,rfl,h2,by rw[own];omega⟩
 split
 ·obtain⟨v2,r2,e2,h2,_⟩:=P.num h1 (by omega) [6,-1,1] (by simp)
  rw[e2];exact⟨_,_,rfl,h2,by rw[own];omega⟩
 split
 ·obtain⟨v2,r2,e2,h2,_⟩:=P.num h1 (by omega) [9,-1,1] (by simp)
  rw[e2];exact⟨_,_,rfl,h2,by rw[own];omega⟩
 split
 ·rw[if_pos (by omega)]
  refine⟨_,_,rfl,h1.mono (by omega),?_⟩
  rw[own]
  have:wtL Pattern.wt (p.kids++[⟨2,0,0,0,0,[]⟩])=wtL Pattern.wt p.kids+(1+Pattern.wt ⟨2,0,0,0,0,[]⟩):=by simp[wtL];omega
  rw[this,ZBi];omega
 split
 ·split
  ·next h0=>
   rw[gQ h0]
   refine⟨_,_,rfl,h1.mono (by omega),?_⟩
   rw[own]
   have:=ZIs Pattern.wt p.kids 0 h0 ⟨2,0,0,0,0,[]⟩
   rw[ZBi]at this
   omega
  ·exact⟨_,_,rfl,h1.mono (by omega),by omega⟩
 split
 ·obtain⟨v2,r2,e2,h2,_⟩:=P.num h1 (by omega) [10,-1,5] (by simp)
  rw[e2];exact⟨_,_,rfl,h2,by rw[own];omega⟩
 ·exact⟨_,_,rfl,h1.mono (by omega),by omega⟩
theorem P.Yh (x:Pattern):F.f144 x x=some true:=by
 induction x using Pattern.ind with
 |_ x ih=>
  rw[F.f144,if_pos rfl,if_pos rfl,if_pos rfl,if_pos rfl,if_pos rfl,F.f145,if_pos rfl]
  have key:∀k,k<=x.kids.length->F.f146 x.kids x.kids (x.kids.length-k)=some (.go ()):=by
   intro k
   induction k with
   |zero=>intro _;rw[F.f146,if_neg (by omega)]
   |succ k ih2=>
    intro hk
    have hi:x.kids.length- (k+1)<x.kids.length:=by omega
    have ei:x.kids.length- (k+1)+1=x.kids.length-k:=by omega
    rw[F.f146,if_pos hi,gQ hi]
    simp only[oE,oS]
    rw[ih _ (gM hi)]
    simp only[oS]
    simp only[if_true]
    rw[ei]
    exact ih2 (by omega)
  have:=key x.kids.length (Nat.le_refl _)
  rw[Nat.sub_self]at this
  rw[this]
  rfl
def Tree.nodes :Tree->Nat
 |⟨_,_,_,_,branches,els⟩=>1+(branches.attach.map fun⟨b,_⟩=>Tree.nodes b.tree).sum+(els.attach.map fun⟨k,_⟩=>Tree.nodes k).sum
termination_by t=>SizeOf.sizeOf t
decreasing_by
 ·rename_i h
  have:=List.sizeOf_lt_of_mem h
  cases b
  simp at this ⊢
  omega
 ·rename_i h
  have:=List.sizeOf_lt_of_mem h
  simp
  omega
def ZI4 :Nat->Tree->Prop
 |0,_=>False
 |n+1,x=>(0<=x.op/\x.op<=2/\x.els.length<=1/\x.branches.length<=10)/\(∀b,b∈x.branches->ZI4 n b.tree)/\∀y,y∈x.els->ZI4 n y
def right (x:Tree):Prop:=ZI4 x.nodes x
theorem ZGD (l:List Pattern)(x:Pattern):wtL Pattern.wt (l++[x])=wtL Pattern.wt l+(1+x.wt):=by simp[wtL];omega
def ZAQ :List Nat->Nat
 | []=>1
 |a::r=>a*ZAQ r
def Pattern.alts :Pattern->Nat
 |⟨op,_,_,_,_,kids⟩=>if op=5 then(kids.map fun k=>Pattern.alts k).sum else ZAQ (kids.map fun k=>Pattern.alts k)
theorem ZAw (p:Pattern):p.alts=if p.op=5 then(p.kids.map Pattern.alts).sum else ZAQ (p.kids.map Pattern.alts):=by
 cases p;rw[Pattern.alts]
theorem ZMp (a b:Nat):min (min a 401+min b 401) 401=min (a+b) 401:=by omega
theorem ZMo (a b:Nat):min (min a 401*min b 401) 401=min (a*b) 401:=by
 by_cases ha:a<=401
 ·by_cases hb:b<=401
  ·rw[Nat.min_eq_left ha,Nat.min_eq_left hb]
  ·rw[Nat.min_eq_left ha,Nat.min_eq_right (by omega:401<=b)]
   rcases Nat.eq_zero_or_pos a with rfl|h
   ·simp
   ·have h1:1*401<=a*401:=Nat.mul_le_mul_right _ h
    have h2:1*b<=a*b:=Nat.mul_le_mul_right _ h
    omega
 ·rw[Nat.min_eq_right (by omega:401<=a)]
  rcases Nat.eq_zero_or_pos b with rfl|h
  ·simp
  ·have h0:1<=min b 401:=by omega
   have h1:401*1<=401*min b 401:=Nat.mul_le_mul_left _ h0
   have h2:a*1<=a*b:=Nat.mul_le_mul_left _ h
   omega
theorem P.YAX (p:Pattern):F.f173 p=some ((min p.alts 401:Nat):Int):=by
 induction p using Pattern.ind with
 |_ p ih=>
  have e:=ZAw p
  rw[F.f173]
  by_cases h5:p.op=5
  ·rw[if_pos h5]at e ⊢
   have key:∀(m i n:Nat),p.kids.length-i=m->F.f174 p i ((min n 401:Nat):Int)=some ((min (n+((p.kids.drop i).map Pattern.alts).sum) 401:Nat):Int):=by
    intro m
    induction m with
    |zero=>intro i n hm;rw[F.f174,if_neg (by omega),List.drop_eq_nil_of_le (by omega)];simp
    |succ m ihm=>
     intro i n hm
     have hi:i<p.kids.length:=by omega
     rw[F.f174,if_pos hi,gQ hi]
     simp only[oE,oS]
     rw[if_pos h5,ih _ (gM hi)]
     simp only[oS]
     have hw:i64.wrap (((min n 401:Nat):Int)+((min p.kids[i].alts 401:Nat):Int))=((min n 401+min p.kids[i].alts 401:Nat):Int):=by rw[ZF (by omega) (by omega)];omega
     have hr:(if 401<((min n 401+min p.kids[i].alts 401:Nat):Int)then 401 else((min n 401+min p.kids[i].alts 401:Nat):Int))=((min (n+p.kids[i].alts) 401:Nat):Int):=by
      rw[←ZMp];split<;>omega
     rw[hw,hr,ihm (i+1) _ (by omega),List.drop_eq_getElem_cons hi,List.map_cons,List.sum_cons,Nat.add_assoc]
   have k0:=key _ 0 0 rfl
   rw[List.drop_zero,Nat.zero_add,←e]at k0
   rw[show F.f174 p 0 0=some ((min p.alts 401:Nat):Int)from k0]
   rfl
  ·rw[if_neg h5]at e ⊢
   have key:∀(m i n:Nat),p.kids.length-i=m->F.f175 p i ((min n 401:Nat):Int)=some ((min (n*ZAQ ((p.kids.drop i).map Pattern.alts)) 401:Nat):Int):=by
    intro m
    induction m with
    |zero=>intro i n hm;rw[F.f175,if_neg (by omega),List.drop_eq_nil_of_le (by omega)];simp[ZAQ]
    |succ m ihm=>
     intro i n hm
     have hi:i<p.kids.length:=by omega
     rw[F.f175,if_pos hi,gQ hi]
     simp only[oE,oS]
     rw[if_neg h5,ih _ (gM hi)]
     simp only[oS]
     have hb:min n 401*min p.kids[i].alts 401<=401*401:=Nat.mul_le_mul (by omega) (by omega)
     have hw:i64.wrap (((min n 401:Nat):Int)*((min p.kids[i].alts 401:Nat):Int))=((min n 401*min p.kids[i].alts 401:Nat):Int):=by
      rw[←Int.natCast_mul,ZF (by omega) (by omega)]
     have hr:(if 401<((min n 401*min p.kids[i].alts 401:Nat):Int)then 401 else((min n 401*min p.kids[i].alts 401:Nat):Int))=((min (n*p.kids[i].alts) 401:Nat):Int):=by
      rw[←ZMo]
      generalize min n 401*min p.kids[i].alts 401=z
      split<;>omega
     rw[hw,hr,ihm (i+1) _ (by omega),List.drop_eq_getElem_cons hi,List.map_cons,ZAQ,Nat.mul_assoc]
   have k0:=key _ 0 1 rfl
   rw[List.drop_zero,Nat.one_mul,←e]at k0
   rw[show F.f175 p 0 1=some ((min p.alts 401:Nat):Int)from k0]
   rfl
theorem ZCF :∀{l:List Nat},(∀x,x∈l->1<=x)->1<=ZAQ l
 | [],_=>Nat.le_refl _
 |a::r,h=>by
  have h1:=h a (by simp)
  have h2:=ZCF (l:=r) fun x hx=>h x (List.mem_cons_of_mem _ hx)
  exact Nat.mul_le_mul h1 h2
theorem ZFF {w:List Data}:∀{d:Nat} {t:Ty} {p:Pattern},ZO w d t p->1<=p.alts
 |0,_,_,h=>h.elim
 |d+1,t,p,⟨ho,hl,hk⟩=>by
  have hks:∀k,k∈p.kids->1<=k.alts:=fun k hm=>by
   obtain⟨i,hi,rfl⟩:=List.getElem_of_mem hm
   exact ZFF (hk i (Nat.zero_le _) (by omega) (by omega) hi)
  rw[ZAw]
  split
  ·next h5=>
   have e5:=Zh ho h5
   have h2:p.kids.length=2:=by rw[hl,e5];rfl
   have q0:=hks _ (gM (show 0<p.kids.length by omega))
   have e9:(([p.kids[0]'(by omega),p.kids[1]'(by omega)]:List Pattern).map Pattern.alts).sum=(p.kids[0]'(by omega)).alts+(p.kids[1]'(by omega)).alts:=by simp
   rw[←ZCM h2]at e9
   omega
  ·exact ZCF fun x hx=>by
    obtain⟨k,hk2,rfl⟩:=List.mem_map.1 hx
    exact hks k hk2
theorem ZEK {l:List Nat}(h:∀x,x∈l->1<=x)(i:Nat):ZAQ (l.take i)<=ZAQ l:=by
 induction l generalizing i with
 |nil=>simp[ZAQ]
 |cons a r ih=>
  have hr:∀x,x∈r->1<=x:=fun x hx=>h x (List.mem_cons_of_mem _ hx)
  cases i with
  |zero=>exact ZCF h
  |succ i=>exact Nat.mul_le_mul_left _ (ih hr i)
theorem ZH6 (l:List Nat)(a:Nat):ZAQ (l++[a])=ZAQ l*a:=by
 induction l with
 |nil=>simp[ZAQ]
 |cons b r ih=>simp only[List.cons_append,ZAQ,ih,Nat.mul_assoc]
theorem ZJM {l:List Nat}(h:∀x,x∈l->1<=x){a:Nat}(ha:a∈l):a<=ZAQ l:=by
 induction l with
 |nil=>cases ha
 |cons b r ih=>
  have hr:∀x,x∈r->1<=x:=fun x hx=>h x (List.mem_cons_of_mem _ hx)
  have h1:=h b (by simp)
  have h2:=ZCF hr
  rcases List.mem_cons.1 ha with rfl|ha
  ·have:=Nat.mul_le_mul_left a h2;rw[Nat.mul_one]at this;exact this
  ·have h3:=ih hr ha
   have h4:=Nat.mul_le_mul_right (ZAQ r) h1
   rw[Nat.one_mul]at h4
   exact Nat.le_trans h3 h4
theorem P.YAJ (p:Pattern)(list:List Pattern)(i:Nat)(v:List Pattern)(i17:Nat)(q:Pattern)(hq:q.kids.length<=1048576):∀(m j:Nat) (more:List Pattern),v.length-j=m->more.length+m<=67108864->
  F.f177 p list i v i17 q more j=some (more++(v.drop j).map fun x=>⟨q.op,q.ctor,q.n,q.m,q.var,q.kids++[x]⟩)
 |0,j,more,hm,hb=>by rw[F.f177,if_neg (by omega),List.drop_eq_nil_of_le (by omega)];simp
 |m+1,j,more,hm,hb=>by
  have hj:j<v.length:=by omega
  rw[F.f177,if_pos hj,gQ hj]
  simp only[oE,oS]
  unfold F.f176
  rw[if_pos (by omega)]
  simp only[oS]
  rw[if_pos (by omega),if_pos (by omega),P.YAJ p list i v i17 q hq m (j+1) _ (by omega) (by simp;omega),List.drop_eq_getElem_cons hj,List.map_cons]
  simp
theorem P.YAK (p:Pattern)(list:List Pattern)(i:Nat)(v:List Pattern)(S:Nat)(hq:∀q,q∈list->q.kids.length=i/\wtL Pattern.wt q.kids<=S)(hi:i<=1048576)(B:Nat)(hv:∀x,x∈v->x.wt<=B)(hb:list.length*v.length<=60000000)(hll:list.length<=1048576):
  ∀(m k:Nat) (more:List Pattern),list.length-k=m->k<=list.length->more.length=k*v.length->(∀q,q∈more->q.kids.length=i+1/\wtL Pattern.wt q.kids<=S+(1+B))->
  ∃l,F.f178 p list i v more k=some l/\l.length=list.length*v.length/\∀q,q∈l->q.kids.length=i+1/\wtL Pattern.wt q.kids<=S+(1+B)
 |0,k,more,hm,hk,ho,hr=>by
  have:k=list.length:=by omega
  subst this
  rw[F.f178,if_neg (by omega)]
  exact⟨_,rfl,ho,hr⟩
 |m+1,k,more,hm,hk,ho,hr=>by
  have hkl:k<list.length:=by omega
  obtain⟨q1,q2⟩:=hq _ (gM hkl)
  have hmul:(k+1)*v.length<=list.length*v.length:=Nat.mul_le_mul_right _ hkl
  rw[Nat.add_mul,Nat.one_mul]at hmul
  rw[F.f178,if_pos hkl,gQ hkl]
  simp only[oE,oS]
  rw[P.YAJ p list i v k list[k] (by omega) _ 0 more rfl (by omega)]
  simp only[oS]
  rw[if_pos (by omega)]
  refine P.YAK p list i v S hq hi B hv hb hll m (k+1) _ (by omega) (by omega) ?_ fun q h=> ?_
  ·rw[List.length_append,List.length_map,List.drop_zero,ho,Nat.add_mul,Nat.one_mul]
  ·rcases List.mem_append.1 h with h|h
   ·exact hr q h
   ·obtain⟨x,hx,rfl⟩:=List.mem_map.1 h
    rw[List.drop_zero]at hx
    have:=hv x hx
    refine⟨by simp[q1],?_⟩
    show wtL Pattern.wt (list[k].kids++[x])<=_
    have e:wtL Pattern.wt (list[k].kids++[x])=wtL Pattern.wt list[k].kids+(1+x.wt):=by simp[wtL];omega
    rw[e];omega
theorem P.YAZ {w:List Data}:∀(d:Nat) (t:Ty) (p:Pattern),ZO w d t p->p.wt<=1048576->p.alts<=400->∃l,F.f179 p=some l/\l.length=p.alts/\∀q,q∈l->q.wt<=p.wt
 |0,_,_,h,_,_=>h.elim
 |d+1,t,p,⟨ho,hl,hk⟩,hw,ha=>by
  have hwk:∀i (h:i<p.kids.length),1+p.kids[i].wt<=p.wt:=fun i h=>by rw[p.wt_eq];exact ZAE Pattern.wt (gM h)
  have hkl:p.kids.length<=p.wt:=by rw[p.wt_eq];exact ZA4 Pattern.wt p.kids
  have hsh:∀i (h:i<p.kids.length),∃u,ZO w d u p.kids[i]:=fun i h=>⟨_,hk i (Nat.zero_le _) (by omega) (by omega) h⟩
  have hpos:∀x,x∈p.kids.map Pattern.alts->1<=x:=fun x hx=>by
   obtain⟨k,hk2,rfl⟩:=List.mem_map.1 hx
   obtain⟨i,hi,rfl⟩:=List.getElem_of_mem hk2
   obtain⟨u,hu⟩:=hsh i hi
   exact ZFF hu
  have e:=ZAw p
  rw[F.f179]
  by_cases h5:p.op=5
  ·rw[if_pos h5]at e ⊢
   have e5:=Zh ho h5
   have h2:p.kids.length=2:=by rw[hl,e5];rfl
   have es:p.alts=(p.kids[0]'(by omega)).alts+(p.kids[1]'(by omega)).alts:=by
    have e9:(([p.kids[0]'(by omega),p.kids[1]'(by omega)]:List Pattern).map Pattern.alts).sum=(p.kids[0]'(by omega)).alts+(p.kids[1]'(by omega)).alts:=by simp
    rw[←ZCM h2]at e9;rw[e];exact e9
   obtain⟨u0,s0⟩:=hsh 0 (by omega)
   obtain⟨u1,s1⟩:=hsh 1 (by omega)
   have w0:=hwk 0 (by omega)
   have w1:=hwk 1 (by omega)
   obtain⟨a,ea,la,pa⟩:=P.YAZ d u0 _ s0 (by omega) (by omega)
   obtain⟨b,eb,lb,pb⟩:=P.YAZ d u1 _ s1 (by omega) (by omega)
   rw[gQ (by omega),gQ (by omega)]
   simp only[oE,oS]
   rw[ea,eb]
   simp only[oS]
   rw[if_pos (by omega)]
   refine⟨_,rfl,by simp;omega,fun q hq=> ?_⟩
   rcases List.mem_append.1 hq with hq|hq
   ·have:=pa q hq;omega
   ·have:=pb q hq;omega
  ·rw[if_neg h5]at e ⊢
   have key:∀(m i:Nat) (list:List Pattern),p.kids.length-i=m->i<=p.kids.length->list.length=ZAQ ((p.kids.map Pattern.alts).take i)->(∀q,q∈list->q.kids.length=i/\wtL Pattern.wt q.kids<=wtL Pattern.wt (p.kids.take i))->
     ∃l,F.f180 p list i=some l/\l.length=ZAQ (p.kids.map Pattern.alts)/\∀q,q∈l->wtL Pattern.wt q.kids<=wtL Pattern.wt p.kids:=by
    intro m
    induction m with
    |zero=>
     intro i list hm hi hlen hq
     have:i=p.kids.length:=by omega
     subst this
     rw[F.f180,if_neg (by omega)]
     rw[List.take_of_length_le (by simp)]at hlen
     refine⟨_,rfl,hlen,fun q h=> ?_⟩
     have:=(hq q h).2
     rwa[List.take_length]at this
    |succ m ihm=>
     intro i list hm hi hlen hq
     have hik:i<p.kids.length:=by omega
     obtain⟨u,hu⟩:=hsh i hik
     have hm1:p.kids[i].alts<=ZAQ (p.kids.map Pattern.alts):=ZJM hpos (List.mem_map.2 ⟨_,gM hik,rfl⟩)
     have hm2:=ZEK hpos i
     have hwi:=hwk i hik
     obtain⟨v,ev,lv,pv⟩:=P.YAZ d u _ hu (by omega) (by omega)
     have hts:(p.kids.map Pattern.alts).take (i+1)=(p.kids.map Pattern.alts).take i++[p.kids[i].alts]:=by
      rw[List.take_succ_eq_append_getElem (by simpa using hik)];simp
     have hprod:list.length*v.length=ZAQ ((p.kids.map Pattern.alts).take (i+1)):=by rw[hts,ZH6,hlen,lv]
     have hm3:=ZEK hpos (i+1)
     obtain⟨l,el,ll,pl⟩:=P.YAK p list i v (wtL Pattern.wt (p.kids.take i)) hq (by omega) p.kids[i].wt pv (by rw[hprod];omega) (by omega) _ 0 [] rfl (Nat.zero_le _) (by simp) (by simp)
     rw[F.f180,if_pos hik,gQ hik]
     simp only[oE,oS]
     rw[ev]
     simp only[oS]
     rw[el]
     simp only[oS]
     rw[if_pos (by omega)]
     refine ihm (i+1) l (by omega) (by omega) (by rw[ll,hprod]) fun q h=> ?_
     obtain⟨z1,z2⟩:=pl q h
     refine⟨z1,?_⟩
     rw[List.take_succ_eq_append_getElem hik]
     rw[ZGD];exact z2
   obtain⟨l,el,ll,pl⟩:=key _ 0 [⟨p.op,p.ctor,p.n,p.m,p.var,[]⟩] rfl (Nat.zero_le _) (by simp[ZAQ]) (fun q h=>by rw[List.mem_singleton.1 h];simp)
   rw[el]
   refine⟨l,rfl,by rw[ll,e],fun q h=> ?_⟩
   rw[Pattern.wt_eq,p.wt_eq];exact pl q h
theorem P.YAQ (list:List Pattern)(hl:list.length<=1048576)(hw:∀q,q∈list->q.wt<=67108864):F.f182 list=some list:=by
 have key:∀(m i:Nat) (out:List Pattern),list.length-i=m->i<=list.length->out=list.take i->F.f181 list out i=some list:=by
  intro m
  induction m with
  |zero=>intro i out hm hi ho;rw[F.f181,if_neg (by omega),ho,List.take_of_length_le (by omega)]
  |succ m ih=>
   intro i out hm hi ho
   have hil:i<list.length:=by omega
   rw[F.f181,if_pos hil,gQ hil]
   simp only[oE,oS]
   rw[P.YP _ (hw _ (gM hil))]
   simp only[oS]
   rw[if_pos (by rw[ho,List.length_take];omega)]
   exact ih (i+1) _ (by omega) (by omega) (by rw[ho,List.take_succ_eq_append_getElem hil])
 unfold F.f182
 rw[key _ 0 [] rfl (Nat.zero_le _) (by simp)]
 rfl
theorem ZGp {f g:Ty×Pattern->List VarType}:∀{ts:List Ty} {qs ks:List Pattern} (n:Nat),qs.length=ks.length->(∀i (h1:i<ts.length) (h2:i<qs.length) (h3:i<ks.length),f (ts[i],qs[i])=g (ts[i],ks[i]))->
  ((ts.zip qs).take n).flatMap f=((ts.zip ks).take n).flatMap g
 | [],_,_,n,_,_=>by simp
 |t::ts,[],[],n,_,_=>by simp
 |t::ts,[],k::ks,n,h,_=>by simp at h
 |t::ts,q::qs,[],n,h,_=>by simp at h
 |t::ts,q::qs,k::ks,0,h,hh=>by simp
 |t::ts,q::qs,k::ks,n+1,h,hh=>by
  have h0:=hh 0 (by simp) (by simp) (by simp)
  have hr:=ZGp (f:=f) (g:=g) (ts:=ts) (qs:=qs) (ks:=ks) n (by simpa using h) fun i h1 h2 h3=>by
   have:=hh (i+1) (by simpa using h1) (by simpa using h2) (by simpa using h3)
   simpa using this
  simp only[List.getElem_cons_zero]at h0
  simp only[List.zip_cons_cons,List.take_succ_cons,List.flatMap_cons,h0,hr]
theorem flat_nil {f:Ty×Pattern->List VarType}:∀{ts:List Ty} {ks:List Pattern} (n:Nat),(∀i (h1:i<ts.length) (h3:i<ks.length),f (ts[i],ks[i])=[])->((ts.zip ks).take n).flatMap f=[]
 | [],_,n,_=>by simp
 |t::ts,[],n,_=>by simp
 |t::ts,k::ks,0,_=>by simp
 |t::ts,k::ks,n+1,hh=>by
  have h0:=hh 0 (by simp) (by simp)
  have hr:=flat_nil (f:=f) (ts:=ts) (ks:=ks) n fun i h1 h3=>by
   have:=hh (i+1) (by simpa using h1) (by simpa using h3)
   simpa using this
  simp only[List.getElem_cons_zero]at h0
  simp only[List.zip_cons_cons,List.take_succ_cons,List.flatMap_cons,h0,hr,List.append_nil]
theorem ZAF {w:List Data}{d:Nat}{t:Ty}{p:Pattern}(h:p.op=1∨p.op=3):ZK w d t p=[]:=by
 cases d with
 |zero=>rfl
 |succ d=>
  have e:ZG w t p=[]:=by unfold ZG;rw[if_neg (by omega),if_neg (by omega),if_neg (by omega)]
  rw[ZK,if_neg (by omega),e];simp
theorem ZBG {w:List Data}:∀{d:Nat} {t:Ty} {p:Pattern},ZO w d t p->ZK w (d+1) t p=ZK w d t p
 |d+1,t,p,h=>by
  rw[ZK,ZK.eq_def w (d+1)]
  simp only
  congr 1
  exact ZGp _ rfl fun i h1 h2 _=>ZBG (h.2.2 i (Nat.zero_le _) h1 h1 h2)
theorem ZHb {w:List Data}:∀{d:Nat} {t:Ty} {p:Pattern},ZO w d t p->ZCe w d t p->ZCe w (d+1) t p
 |d+1,t,p,h,hl=>by
  obtain⟨l1,l2⟩:=hl
  refine⟨fun i h0 hi h1 h2=>ZHb (h.2.2 i h0 hi h1 h2) (l1 i h0 hi h1 h2),?_⟩
  split at l2
  ·next h5=>
   rw[if_pos h5]
   intro h0 h1
   have e5:=Zh h.1 h5
   have s0:=h.2.2 0 (Nat.zero_le _) (by rw[e5];simp) (by rw[e5];simp) h0
   have s1:=h.2.2 1 (Nat.zero_le _) (by rw[e5];simp) (by rw[e5];simp) h1
   have t0:(ZG w t p)[0]'(by rw[e5];simp)=t:=by simp[e5]
   have t1:(ZG w t p)[1]'(by rw[e5];simp)=t:=by simp[e5]
   rw[t0]at s0
   rw[t1]at s1
   rw[ZBG s0,ZBG s1]
   exact l2 h0 h1
  ·next h5=>
   rw[if_neg h5,ZBG h]
   exact l2
theorem ZE0 {w:List Data}(d:Nat){t:Ty}{p:Pattern}(h:p.op=1∨p.op=3):ZCe w (d+1) t p:=by
 have e:ZG w t p=[]:=by unfold ZG;rw[if_neg (by omega),if_neg (by omega),if_neg (by omega)]
 refine⟨fun i _ hi=>by rw[e]at hi;simp at hi,?_⟩
 rw[if_neg (by omega),ZAF h]
 simp[ZGB]
theorem ZDH {p:Pattern}(h5:p.op≠5)(hk:p.kids=[]):p.alts=1:=by rw[ZAw,if_neg h5,hk];rfl
theorem ZCA (n m:Int):(Zs n m).op=1∨(Zs n m).op=3:=by unfold Zs;split<;>simp[ZDv]
theorem ZDP (n m:Int):(Zs n m).kids=[]:=by unfold Zs;split<;>rfl
theorem P.YAm (w:List Data)(hw:ZQ w)(d:Nat)(t:Ty)(ht:Zg w t)(a b q:Pattern)(hsa:ZO w d t a)(hsb:ZO w d t b)(hwa:a.wt<=1048576)(h:F.f167 w t a b=some q):
  q=a∨(ZK w d t a=[]/\(q=ZDv∨∃n m,q=Zs n m))∨q=⟨5,0,0,0,0,[a,b]⟩:=by
 obtain⟨bS,s1,_⟩:=P.YI a b
 have hvars:F.f74 [] w t a=some (ZK w d t a):=by rw[P.YC w hw d t a [] ht hsa (by simp;omega)];rfl
 have hc1:=P.YB w hw t (ZAe ht.1)
 have hb:b.op=1->b=ZDv:=fun e=>ZJ8 hsb e
 have ha3:a.op=3->ZK w d t a=[]:=fun e=>ZAF (.inr e)
 have ha4:a.op=4->ZBe a.kids->ZK w d t a=[]:=fun e hh=>by
  cases d with
  |zero=>exact hsa.elim
  |succ d=>
   rw[ZK,if_neg (by omega),flat_nil _ fun i h1 h3=>ZAF (.inl (hh i h3))]
   rfl
 unfold F.f167 F.f164 at h
 simp only[s1,P.YA,P.YF,hvars,F.f160,hc1,oE,oS,decide_eq_true_eq,ZAU]at h
 have fin:∀{X:Pattern},some X=some q->(X=a∨(ZK w d t a=[]/\(X=ZDv∨∃n m,X=Zs n m))∨X=⟨5,0,0,0,0,[a,b]⟩)->q=a∨(ZK w d t a=[]/\(q=ZDv∨∃n m,q=Zs n m))∨q=⟨5,0,0,0,0,[a,b]⟩:=fun e g=>by
  cases e;exact g
 by_cases c0:bS=true
 ·rw[if_pos c0]at h;exact fin h (.inl rfl)
 rw[if_neg c0]at h
 by_cases c1:a.op=1
 ·rw[if_pos c1]at h;exact fin h (.inl rfl)
 rw[if_neg c1]at h
 have tail1:(if b.op=1 then(if(ZK w d t a).length=0 then some b else some (⟨5,0,0,0,0,[a,b]⟩:Pattern))else some (⟨5,0,0,0,0,[a,b]⟩:Pattern))=some q->q=a∨(ZK w d t a=[]/\(q=ZDv∨∃n m,q=Zs n m))∨q=⟨5,0,0,0,0,[a,b]⟩:=by
  intro h
  by_cases e1:b.op=1
  ·rw[if_pos e1]at h
   by_cases e2:(ZK w d t a).length=0
   ·rw[if_pos e2]at h;exact fin h (.inr (.inl ⟨List.length_eq_zero_iff.1 e2,.inl (hb e1)⟩))
   ·rw[if_neg e2]at h;exact fin h (.inr (.inr rfl))
  ·rw[if_neg e1]at h;exact fin h (.inr (.inr rfl))
 by_cases c3:a.op=3
 ·have rg:∀{n m:Int},some (Zs n m)=some q->q=a∨(ZK w d t a=[]/\(q=ZDv∨∃n m,q=Zs n m))∨q=⟨5,0,0,0,0,[a,b]⟩:=fun h=>fin h (.inr (.inl ⟨ha3 c3,.inr ⟨_,_,rfl⟩⟩))
  rw[if_pos c3]at h
  by_cases c4:b.op=3
  ·rw[if_pos c4]at h
   by_cases c5:a.n<=i64.wrap (b.m+1)
   ·rw[if_pos c5]at h
    by_cases c6:b.n<=i64.wrap (a.m+1)
    ·rw[if_pos c6]at h
     by_cases c7:b.n<a.n
     ·rw[if_pos c7]at h
      by_cases c8:a.m<b.m
      ·rw[if_pos c8]at h;exact rg h
      ·rw[if_neg c8]at h;exact rg h
     ·rw[if_neg c7]at h
      by_cases c8:a.m<b.m
      ·rw[if_pos c8]at h;exact rg h
      ·rw[if_neg c8]at h;exact rg h
    ·rw[if_neg c6]at h;exact tail1 h
   ·rw[if_neg c5]at h;exact tail1 h
  ·rw[if_neg c4]at h;exact tail1 h
 rw[if_neg c3]at h
 have tail2:(if a.op=4 then(if b.op=4 then(if dec (ZBe a.kids)=true then(if dec (ZBe b.kids)=true then(if a.ctor=b.ctor then some (⟨5,0,0,0,0,[a,b]⟩:Pattern)else(if(ZP w t).length=2 then some (⟨1,0,0,0,0,[]⟩:Pattern)else some (⟨5,0,0,0,0,[a,b]⟩:Pattern)))else some (⟨5,0,0,0,0,[a,b]⟩:Pattern))else some (⟨5,0,0,0,0,[a,b]⟩:Pattern))else some (⟨5,0,0,0,0,[a,b]⟩:Pattern))else some (⟨5,0,0,0,0,[a,b]⟩:Pattern))=some q->q=a∨(ZK w d t a=[]/\(q=ZDv∨∃n m,q=Zs n m))∨q=⟨5,0,0,0,0,[a,b]⟩:=by
  intro h
  have or2:some (⟨5,0,0,0,0,[a,b]⟩:Pattern)=some q->q=a∨(ZK w d t a=[]/\(q=ZDv∨∃n m,q=Zs n m))∨q=⟨5,0,0,0,0,[a,b]⟩:=fun h=>fin h (.inr (.inr rfl))
  by_cases e1:a.op=4
  ·rw[if_pos e1]at h
   by_cases e2:b.op=4
   ·rw[if_pos e2]at h
    by_cases e3:dec (ZBe a.kids)=true
    ·rw[if_pos e3]at h
     by_cases e4:dec (ZBe b.kids)=true
     ·rw[if_pos e4]at h
      by_cases e5:a.ctor=b.ctor
      ·rw[if_pos e5]at h;exact or2 h
      ·rw[if_neg e5]at h
       by_cases e6:(ZP w t).length=2
       ·rw[if_pos e6]at h;exact fin h (.inr (.inl ⟨ha4 e1 (ZAU.1 e3),.inl rfl⟩))
       ·rw[if_neg e6]at h;exact or2 h
     ·rw[if_neg e4]at h;exact or2 h
    ·rw[if_neg e3]at h;exact or2 h
   ·rw[if_neg e2]at h;exact or2 h
  ·rw[if_neg e1]at h;exact or2 h
 by_cases e1:b.op=1
 ·rw[if_pos e1]at h
  by_cases e2:(ZK w d t a).length=0
  ·rw[if_pos e2]at h;exact fin h (.inr (.inl ⟨List.length_eq_zero_iff.1 e2,.inl (hb e1)⟩))
  ·rw[if_neg e2]at h;exact tail2 h
 ·rw[if_neg e1]at h;exact tail2 h
theorem ZHU :∀{as bs:List Pattern},as.length=bs.length->(∀i (h:i<as.length) (h':i<bs.length),as[i].alts<=bs[i].alts)->ZAQ (as.map Pattern.alts)<=ZAQ (bs.map Pattern.alts)
 | [],[],_,_=>Nat.le_refl _
 | [],_::_,h,_=>by simp at h
 |_::_,[],h,_=>by simp at h
 |a::as,b::bs,h,hh=>by
  have h0:=hh 0 (by simp) (by simp)
  have hr:=ZHU (as:=as) (bs:=bs) (by simpa using h) fun i h1 h2=>by
   have:=hh (i+1) (by simpa using h1) (by simpa using h2)
   simpa using this
  simp only[List.getElem_cons_zero]at h0
  exact Nat.mul_le_mul h0 hr
theorem P.YAO (w:List Data)(hw:ZQ w):∀(d:Nat) (t:Ty) (p q:Pattern),Zg w t->ZO w d t p->ZCe w d t p->p.wt<=1048576->F.f168 w t p=some q->
  ZK w d t q=ZK w d t p/\ZCe w d t q/\q.alts<=p.alts
 |0,t,p,q,ht,hs,hl,hp,hq=>hs.elim
 |d+1,t,p,q,ht,hs,hl,hp,hq=>by
  obtain⟨qs,hql,hqk⟩:=P.YAP w hw d (P.Yc w hw d) t p ht hs hl hp
  obtain⟨q',e1,_,hok⟩:=P.Yc w hw (d+1) t p ht hs hl hp
  obtain rfl:q'=q:=Option.some.inj (e1.symm.trans hq)
  have hqs:=hok.1
  have hs':=hs
  obtain⟨ho,hlen,hk⟩:=hs'
  have hts:=ZAL hw ht ho
  have hwt:=p.wt_eq
  have tok:=ZAe ht.1
  have hl':=hl
  obtain⟨l1,l2⟩:=hl'
  have own:=ho
  unfold ZAs at own
  have ppos:=ZFF hs
  have IH:∀i (h1:i<(ZG w t p).length) (h2:i<p.kids.length) (h3:i<qs.length),ZK w d (ZG w t p)[i] qs[i]=ZK w d (ZG w t p)[i] p.kids[i]/\ZCe w d (ZG w t p)[i] qs[i]/\qs[i].alts<=p.kids[i].alts:=fun i h1 h2 h3=>by
   have hwi:=ZAE Pattern.wt (gM h2)
   exact P.YAO w hw d _ _ _ (hts _ (gM h1)) (hk i (Nat.zero_le _) h1 h1 h2) (l1 i (Nat.zero_le _) h1 h1 h2) (by omega) (hqk i h1 h2 h3).1
  have shq:∀i (h1:i<(ZG w t p).length) (h3:i<qs.length),ZO w d (ZG w t p)[i] qs[i]:=fun i h1 h3=>(hqk i h1 (by omega) h3).2.2.1
  rw[F.f168]at hq
  by_cases h3:p.op=3
  ·rw[if_pos h3,P.YF]at hq
   simp only[oE,oS]at hq
   cases hq
   rw[ZAF (ZCA _ _),ZAF (.inr h3)]
   refine⟨rfl,ZE0 d (ZCA _ _),?_⟩
   rw[ZDH (by rcases ZCA p.n p.m with h|h<;>omega) (ZDP _ _)]
   exact ppos
  rw[if_neg h3]at hq
  by_cases h5:p.op=5
  ·rw[if_pos h5]at hq
   have e5:=Zh ho h5
   have hl2:p.kids.length=2:=by rw[hlen,e5];rfl
   have t0:(ZG w t p)[0]'(by rw[e5];simp)=t:=by simp[e5]
   have t1:(ZG w t p)[1]'(by rw[e5];simp)=t:=by simp[e5]
   have g0:=(hqk 0 (by rw[e5];simp) (by omega) (by omega)).1
   have g1:=(hqk 1 (by rw[e5];simp) (by omega) (by omega)).1
   obtain⟨a1,a2,a3⟩:=IH 0 (by rw[e5];simp) (by omega) (by omega)
   obtain⟨b1,b2,b3⟩:=IH 1 (by rw[e5];simp) (by omega) (by omega)
   have sa:=shq 0 (by rw[e5];simp) (by omega)
   have sb:=shq 1 (by rw[e5];simp) (by omega)
   have wa:=(hqk 0 (by rw[e5];simp) (by omega) (by omega)).2.2.2.2.2
   have wk:=ZAE Pattern.wt (gM (l:=p.kids) (n:=0) (by omega))
   rw[t0]at a1 a2 g0 sa
   rw[t1]at b1 b2 g1 sb
   rw[gQ (by omega),gQ (by omega)]at hq
   simp only[oE,oS]at hq
   rw[g0,g1]at hq
   simp only[oS]at hq
   have hq2:F.f167 w t (qs[0]'(by omega)) (qs[1]'(by omega))=some q':=by
    cases hz:F.f167 w t (qs[0]'(by omega)) (qs[1]'(by omega))with
    |none=>rw[hz]at hq;cases hq
    |some z=>rw[hz]at hq;exact hq
   have hpv:ZK w (d+1) t p=ZK w d t (p.kids[0]'(by omega)):=ZA8 ho h5 (by omega)
   have hpa:p.alts=(p.kids[0]'(by omega)).alts+(p.kids[1]'(by omega)).alts:=by
    have e9:(([p.kids[0]'(by omega),p.kids[1]'(by omega)]:List Pattern).map Pattern.alts).sum=(p.kids[0]'(by omega)).alts+(p.kids[1]'(by omega)).alts:=by simp
    rw[←ZCM hl2]at e9
    rw[ZAw,if_pos h5];exact e9
   rw[if_pos h5]at l2
   have sv:=l2 (by omega) (by omega)
   rcases P.YAm w hw d t ht _ _ _ sa sb (by omega) hq2 with e|⟨e0,e⟩|e
   ·rw[e]
    refine⟨by rw[ZBG sa,a1,hpv],ZHb sa a2,by omega⟩
   ·have hop:q'.op=1∨q'.op=3:=by
     rcases e with e|⟨n,m,e⟩
     ·rw[e];exact .inl rfl
     ·rw[e];exact ZCA _ _
    have hkn:q'.kids=[]:=by
     rcases e with e|⟨n,m,e⟩
     ·rw[e];rfl
     ·rw[e];exact ZDP _ _
    refine⟨by rw[ZAF hop,hpv,←a1,e0],ZE0 d hop,?_⟩
    rw[ZDH (by omega) hkn]
    exact ppos
   ·have ho':ZAs w t (⟨5,0,0,0,0,[qs[0]'(by omega),qs[1]'(by omega)]⟩:Pattern):=.inr (.inr (.inr (.inr (.inl ⟨rfl,rfl,rfl,rfl,rfl⟩))))
    have et:ZG w t (⟨5,0,0,0,0,[qs[0]'(by omega),qs[1]'(by omega)]⟩:Pattern)=[t,t]:=by unfold ZG;rfl
    rw[e]
    refine⟨?_,⟨fun i _ _ h1 h2=> ?_,?_⟩,?_⟩
    ·rw[ZA8 ho' rfl (by simp),hpv];exact a1
    ·match i,h1,h2 with
     |0,h1,h2=>simp only[et];exact a2
     |1,h1,h2=>simp only[et];exact b2
     |k+2,h1,h2=>exact absurd (show k+2<2 from h2) (by omega)
    ·rw[if_pos rfl]
     intro _ _
     show ZFR (ZK w d t (qs[0]'(by omega))) (ZK w d t (qs[1]'(by omega)))
     rw[a1,b1];exact sv
    ·rw[ZAw,if_pos rfl];simp;omega
  rw[if_neg h5]at hq
  rw[if_neg h5]at l2
  by_cases h6:p.op=6
  ·rw[if_pos h6]at hq
   have e6:ZG w t p=[t]:=by unfold ZG;rw[if_neg (by omega),if_neg h5,if_pos h6]
   have hl1:p.kids.length=1:=by rw[hlen,e6];rfl
   have t0:(ZG w t p)[0]'(by rw[e6];simp)=t:=by simp[e6]
   have g0:=(hqk 0 (by rw[e6];simp) (by omega) (by omega)).1
   obtain⟨a1,a2,a3⟩:=IH 0 (by rw[e6];simp) (by omega) (by omega)
   rw[t0]at a1 a2 g0
   rw[gQ (by omega)]at hq
   simp only[oE,oS]at hq
   rw[g0]at hq
   unfold F.f164 at hq
   simp only[oS,decide_eq_true_eq]at hq
   have hpa:p.alts=(p.kids[0]'(by omega)).alts:=by
    have e9:ZAQ (([p.kids[0]'(by omega)]:List Pattern).map Pattern.alts)=(p.kids[0]'(by omega)).alts:=by simp[ZAQ]
    rw[←ZEz hl1]at e9
    rw[ZAw,if_neg h5];exact e9
   have hpv:ZK w (d+1) t p=⟨p.var,t⟩::ZK w d t (p.kids[0]'(by omega)):=by
    have e9:((([t]:List Ty).zip [p.kids[0]'(by omega)]).take ([p.kids[0]'(by omega)]:List Pattern).length).flatMap (fun x=>ZK w d x.1 x.2)=ZK w d t (p.kids[0]'(by omega)):=by simp
    rw[←ZEz hl1]at e9
    rw[ZK,if_pos (.inr h6),if_neg h5,e6,e9];rfl
   split at hq
   ·next hop=>
    cases hq
    have e2:ZG w t (⟨2,0,0,0,p.var,[]⟩:Pattern)=[]:=by unfold ZG;rfl
    have hv2:ZK w (d+1) t (⟨2,0,0,0,p.var,[]⟩:Pattern)=[⟨p.var,t⟩]:=by rw[ZK,if_pos (.inl rfl),e2];simp
    have hk0:ZK w d t (p.kids[0]'(by omega))=[]:=by rw[←a1];exact ZAF (.inl hop)
    refine⟨by rw[hv2,hpv,hk0],⟨fun i _ hi=>by rw[e2]at hi;simp at hi,?_⟩,?_⟩
    ·rw[if_neg (show ¬(2:Int)=5 by decide),hv2];simp[ZGB]
    ·rw[ZDH (show(2:Int)≠5 by decide) rfl];exact ppos
   ·cases hq
    have e2:ZG w t (⟨6,0,0,0,p.var,[qs[0]'(by omega)]⟩:Pattern)=[t]:=by unfold ZG;rfl
    have hv2:ZK w (d+1) t (⟨6,0,0,0,p.var,[qs[0]'(by omega)]⟩:Pattern)=⟨p.var,t⟩::ZK w d t (qs[0]'(by omega)):=by
     rw[ZK,if_pos (.inr rfl),if_neg (show ¬(6:Int)=5 by decide),e2];simp
    refine⟨by rw[hv2,hpv,a1],⟨fun i _ _ h1 h2=> ?_,?_⟩,?_⟩
    ·match i,h1,h2 with
     |0,h1,h2=>simp only[e2];exact a2
     |k+1,h1,h2=>exact absurd (show k+1<1 from h2) (by omega)
    ·rw[if_neg (show ¬(6:Int)=5 by decide),hv2,a1,←hpv];exact l2
    ·rw[ZAw,if_neg (show ¬(6:Int)=5 by decide)];simp[ZAQ];omega
  rw[if_neg h6]at hq
  by_cases h4:p.op=4
  ·rw[if_pos h4]at hq
   have e4:ZG w t p=ZL w t p.ctor:=by unfold ZG;rw[if_pos h4]
   have hct:p.ctor∈ZP w t:=by rcases own with h|h|h|h|h|h<;>first|exact h.2.2.2.2|omega
   have hkl:=ZA4 Pattern.wt p.kids
   have hloop2:F.f169 w t p (ZL w t p.ctor) [] 0=some qs:=by
    have:=ZDq (qs:=qs) (L:=fun out i=>F.f169 w t p (ZL w t p.ctor) out i) (fun out i h=>by
      show F.f169 w t p (ZL w t p.ctor) out i=_
      rw[F.f169,if_neg (by rw[←e4];omega)])
     (fun out i h ho=>by
      show F.f169 w t p (ZL w t p.ctor) out i=_
      have h2:i<p.kids.length:=by omega
      have h1:i<(ZG w t p).length:=by omega
      have hqi:=(hqk i h1 h2 h).1
      rw[F.f169,←e4,if_pos h1,gQ h2,gQ h1]
      simp only[oE,oS,hqi]
      rw[if_pos ho]) _ 0 [] rfl (by simp;omega)
    simpa using this
   rw[P.YD w hw t tok _ hct]at hq
   simp only[oE,oS,hloop2,P.YB w hw t tok,P.YA,F.f160,ZAU]at hq
   have hpv:ZK w (d+1) t p=(((ZG w t p).zip p.kids).take p.kids.length).flatMap fun x=>ZK w d x.1 x.2:=by
    rw[ZK,if_neg (by omega),if_neg h5];rfl
   have et:ZG w t (⟨4,p.ctor,0,0,0,qs⟩:Pattern)=ZG w t p:=by rw[e4];unfold ZG;rfl
   have hqv:ZK w (d+1) t (⟨4,p.ctor,0,0,0,qs⟩:Pattern)=ZK w (d+1) t p:=by
    rw[hpv,ZK,if_neg (show ¬((4:Int)=2∨(4:Int)=6) by decide),if_neg (show ¬(4:Int)=5 by decide),et]
    show[]++(((ZG w t p).zip qs).take qs.length).flatMap _=_
    rw[hql,List.nil_append]
    exact ZGp _ hql fun i h1 h2 h3=>(IH i h1 h3 h2).1
   have good:ZK w (d+1) t (⟨4,p.ctor,0,0,0,qs⟩:Pattern)=ZK w (d+1) t p/\ZCe w (d+1) t (⟨4,p.ctor,0,0,0,qs⟩:Pattern)/\(⟨4,p.ctor,0,0,0,qs⟩:Pattern).alts<=p.alts:=by
    refine⟨hqv,⟨fun i _ _ h1 h2=> ?_,?_⟩,?_⟩
    ·have h2':i<qs.length:=h2
     simp only[et]
     exact(IH i (by omega) (by omega) h2').2.1
    ·rw[if_neg (show ¬(4:Int)=5 by decide),hqv];exact l2
    ·rw[ZAw,ZAw p,if_neg (show ¬(4:Int)=5 by decide),if_neg h5]
     exact ZHU hql fun i h1 h2=>(IH i (by omega) h2 h1).2.2
   split at hq
   ·split at hq
    ·next hwd=>
     cases hq
     have hz:ZK w (d+1) t p=[]:=by
      rw[hpv]
      exact flat_nil _ fun i h1 h3=>by
       rw[←(IH i h1 h3 (by omega)).1]
       exact ZAF (.inl (ZAU.1 hwd i (by show i<qs.length;omega)))
     exact⟨by rw[hz];exact ZAF (.inl rfl),ZE0 d (.inl rfl),by rw[ZDH (show(1:Int)≠5 by decide) rfl];exact ppos⟩
    ·cases hq;exact good
   ·cases hq;exact good
  ·rw[if_neg h4]at hq
   cases hq
   exact⟨rfl,hl,Nat.le_refl _⟩
theorem P.YG (p:Pattern):p.wt<=1048576->∃q,F.f88 p=some q/\q.wt<=p.wt:=by
 induction p using Pattern.ind with
 |_ p ih=>
  intro hw
  have hwk:∀i (h:i<p.kids.length),1+p.kids[i].wt<=p.wt:=fun i h=>by rw[p.wt_eq];exact ZAE Pattern.wt (gM h)
  have hkl:p.kids.length<=p.wt:=by rw[p.wt_eq];exact ZA4 Pattern.wt p.kids
  have own:∀(a b c d e:Int) (ks:List Pattern),(⟨a,b,c,d,e,ks⟩:Pattern).wt=wtL Pattern.wt ks:=fun a b c d e ks=>by rw[Pattern.wt_eq]
  have key:∀(L:List Pattern->Nat->Option (List Pattern)),(∀out i,L out i=if i<p.kids.length then(p.kids[i]?)>>=fun x=>(F.f88 x)>>=fun v=>if out.length+1<=67108864 then L (out++[v]) (i+1)else none else some out)->
    ∀(m i:Nat) (out:List Pattern),p.kids.length-i=m->out.length<=i->i<=p.kids.length->wtL Pattern.wt out<=wtL Pattern.wt (p.kids.take i)->∃r,L out i=some r/\wtL Pattern.wt r<=p.wt:=by
   intro L hL m
   induction m with
   |zero=>
    intro i out hm ho hi hq
    have:i=p.kids.length:=by omega
    subst this
    rw[hL,if_neg (by omega)]
    rw[List.take_length,←p.wt_eq]at hq
    exact⟨out,rfl,hq⟩
   |succ m ihm=>
    intro i out hm ho hi hq
    have hil:i<p.kids.length:=by omega
    have h1:=hwk i hil
    obtain⟨v,e,hv⟩:=ih _ (gM hil) (by omega)
    rw[hL,if_pos hil,gQ hil]
    simp only[oE,oS]
    rw[e]
    simp only[oS]
    rw[if_pos (by omega)]
    refine ihm (i+1) _ (by omega) (by simp;omega) (by omega) ?_
    rw[List.take_succ_eq_append_getElem hil,ZGD,ZGD]
    omega
  rw[F.f88]
  by_cases h2:p.op=2
  ·rw[if_pos h2];exact⟨_,rfl,by rw[ZBi];omega⟩
  rw[if_neg h2]
  by_cases h6:p.op=6
  ·rw[if_pos h6]
   by_cases h0:0<p.kids.length
   ·have h1:=hwk 0 h0
    obtain⟨v,e,hv⟩:=ih _ (gM h0) (by omega)
    rw[if_pos h0,gQ h0]
    simp only[oE,oS]
    rw[e]
    exact⟨v,rfl,by omega⟩
   ·obtain⟨r,e,hr⟩:=key (F.f89 p) (fun out i=>by rw[F.f89]) _ 0 [] rfl (by simp) (by omega) (by simp)
    rw[if_neg h0,e]
    exact⟨_,rfl,by rw[own];exact hr⟩
  ·obtain⟨r,e,hr⟩:=key (F.f90 p) (fun out i=>by rw[F.f90]) _ 0 [] rfl (by simp) (by omega) (by simp)
   rw[if_neg h6,e]
   exact⟨_,rfl,by rw[own];exact hr⟩
theorem P.YAj {K:Nat}{r:ZD}(hr:rok K r)(hK:K+21000<=1099511627776):∃w t p v r',F.f87 r=some (w,t,p,v,r')/\rok (K+21000) r'/\w∈ZAl/\ZQ w/\Zg w t/\ZBr w t p:=by
 obtain⟨w,t,v,r1,T,e1,h1,hw,_,hT,a1,a2,a3,_,_,_,a4⟩:=P.YAh hr (by omega)
 have ht:Zg w t:=by
  refine⟨?_,a3⟩
  rcases a1 with q|⟨q1,q2,q3,q4⟩
  ·exact .inl ⟨q,a4 q⟩
  ·exact .inr ⟨q1,q2,by omega,q4⟩
 obtain⟨p,r2,e2,h2,hp⟩:=P.YAf hT.wok ht h1 (by omega)
 unfold F.f87
 rw[e1]
 simp only[oE,oS]
 rw[e2]
 exact⟨w,t,p,v,r2,rfl,h2.mono (by omega),hw,hT.wok,ht,hp⟩
theorem P.YV (code:List Int)(hc:ZFE code):∃w t p,F.f92 code=some (w,t,p)/\ZAK w/\p.wt<=1048576:=by
 have key:∀r,rok 0 r->∃w t p,((F.f87 r)>>=fun v=>
   (F.f1 v.2.2.2.2 2)>>=fun v6=>
   if v6.1=0 then
    (F.f86 v6.2 v.1 v.2.1)>>=fun v10=>
    (F.f88 v.2.2.1)>>=fun v12=>
    (F.f88 v10.1)>>=fun v14=>
    (F.f91 v10.2 (⟨5,0,0,0,0,[v12,v14]⟩:Pattern))>>=fun v16=>
    some (v.1,v.2.1,v16.1)
   else
    (F.f91 v6.2 v.2.2.1)>>=fun v18=>
    some (v.1,v.2.1,v18.1))=some (w,t,p)/\ZAK w/\p.wt<=1048576:=by
  intro r hr
  obtain⟨w,t,p,v,r1,e1,h1,hw,hwo,ht,hp⟩:=P.YAj hr (by omega)
  have hpw:=hp.2.2
  rw[e1]
  simp only[oE,oS]
  obtain⟨v6,r2,e2,h2,_⟩:=P.YZ h1 (by omega) 2
  rw[e2]
  simp only[oS]
  split
  ·obtain⟨q,r3,e3,h3,hq⟩:=P.YAf hwo ht h2 (by omega)
   have hqw:=hq.2.2
   obtain⟨a,ea,ha⟩:=P.YG p (by omega)
   obtain⟨b,eb,hb⟩:=P.YG q (by omega)
   rw[e3]
   simp only[oS]
   rw[ea,eb]
   simp only[oS]
   obtain⟨p',r4,e4,_,h4⟩:=P.YAR h3 (by omega) ⟨5,0,0,0,0,[a,b]⟩ (by rw[ZHF];omega)
   rw[e4]
   rw[ZHF]at h4
   exact⟨w,t,p',rfl,ZBF hw,by omega⟩
  ·obtain⟨p',r4,e4,_,h4⟩:=P.YAR h2 (by omega) p (by omega)
   rw[e4]
   exact⟨w,t,p',rfl,ZBF hw,by omega⟩
 unfold F.f92
 by_cases hcl:2000<code.length
 ·rw[if_pos hcl,if_pos (by omega)];exact key _ (ZMF hc)
 ·rw[if_neg hcl];exact key _ (ZKU hc (by omega))
theorem P.Yf (w:List Data)(hw:ZAK w)(t:Ty)(p:Pattern)(hp:p.wt<=1048576):F.f135 w t p=some (dec (ZAc w t/\ZBr w t p)):=by
 unfold F.f135
 rw[P.YS w t hw]
 simp only[oE,oS]
 by_cases h:ZAc w t
 ·rw[if_pos (ZH h),P.YR w h.1 t h.2 p hp]
  simp only[oS]
  by_cases h2:ZBr w t p
  ·rw[ZH h2,ZH ⟨h,h2⟩]
  ·rw[ZE h2,ZE fun q=>h2 q.2]
 ·rw[if_neg (by rw[ZE h];decide),ZE fun q=>h q.1]
theorem P.Ye (w:List Data)(hw:ZAK w)(t:Ty)(p:Pattern)(ht:ZAc w t)(hp:ZBr w t p):∃l,F.f183 w t p=some (l,decide (p.alts<=400))/\(p.alts<=400->l.length=p.alts):=by
 have h60:=hp.2.2
 unfold F.f183
 rw[P.Yf w hw t p (by omega),ZH ⟨ht,hp⟩]
 simp only[oE,oS]
 rw[if_pos True.intro,P.YAX]
 simp only[oS]
 by_cases ha:p.alts<=400
 ·rw[if_neg (by omega)]
  obtain⟨l,e,hl,hq⟩:=P.YAZ 10 t p hp.1 (by omega) ha
  rw[e]
  simp only[oS]
  rw[P.YAQ l (by omega) (fun q h=>by have:=hq q h;omega)]
  exact⟨l,by rw[decide_eq_true ha];rfl,fun _=>hl⟩
 ·rw[if_pos (by omega)]
  exact⟨[],by rw[decide_eq_false ha],fun q=>absurd q ha⟩
theorem P.YT (w:List Data)(hw:ZAK w)(t:Ty)(p:Pattern)(hp:p.wt<=1048576):∃q b,F.f172 w t p=some (q,b)/\F.f156 w t p=some (q,b)/\(b=true->ZAc w t/\ZBr w t p/\ZBr w t q/\q.alts<=p.alts):=by
 unfold F.f172 F.f156 F.f159 F.f135
 rw[P.Yr w t hw,P.YS w t hw]
 simp only[oE,oS]
 by_cases h:ZAc w t
 ·rw[if_pos (ZH h),if_pos (ZH h),P.YAD w h.1 t h.2 p hp,P.YR w h.1 t h.2 p hp]
  simp only[oS]
  by_cases hpk:ZBr w t p
  ·rw[if_pos (ZH hpk),if_pos (ZH hpk)]
   obtain⟨q,e1,e2,s1,_,_,e3⟩:=P.Yc w h.1 10 t p h.2 hpk.1 hpk.2.1 hp
   obtain⟨m1,m2,m3⟩:=P.YAO w h.1 10 t p q h.2 hpk.1 hpk.2.1 hp e1
   have h60:=hpk.2.2
   rw[e1,e2]
   simp only[oS]
   rw[P.YAL q (by omega),P.YP q (by omega)]
   exact⟨q,true,rfl,rfl,fun _=>⟨h,hpk,⟨s1,m2,by omega⟩,m3⟩⟩
  ·rw[if_neg (by rw[ZE hpk];simp),if_neg (by rw[ZE hpk];simp)];exact⟨_,false,rfl,rfl,fun e=>by cases e⟩
 ·rw[if_neg (by rw[ZE h];simp),if_neg (by rw[ZE h];simp)];exact⟨_,false,rfl,rfl,fun e=>by cases e⟩
end Go.Vl
