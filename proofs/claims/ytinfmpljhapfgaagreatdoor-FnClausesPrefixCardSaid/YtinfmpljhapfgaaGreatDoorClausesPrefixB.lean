/- A part of the proof. -/
import Derived.Test.YtinfmpljhapfgaaGreatDoorClausesPrefixB1
set_option linter.all false
set_option maxRecDepth 100000
namespace Go.Vl
open Go Go.RowKit
open Go.IntKind (i64)
theorem P.YAX (w:List Data)(hw:ZN w)(hs:Zu w):∀(d:Nat) (t:Ty) (e:Pattern),Zb w t->e.wt<=1048576->Zs w d t e->
  ∃s,F.f161 w t e=some s/\s.size+1<=1048580*(1+e.wt)
 |0,_,_,_,_,h=>h.elim
 |d+1,t,e,ht,he,⟨h1,h2,h3⟩=>by
  obtain⟨ts,g2,g3⟩:=P.Yk w hw t (ZA8 ht.1) e
  obtain rfl:=g3 h1
  have g4:=ZAT hw ht h1
  have hwt:=ZER e
  rw[List.drop_zero]at hwt
  have hkl:e.kids.length<=e.wt:=by rw[hwt];exact ZL0 _
  have hkw:∀i (h:i<e.kids.length),e.kids[i].wt<=1048576:=fun i h=>by have:=ZIp e.kids i h;omega
  obtain⟨T,k1,k2⟩:=ZPv (n:=(ZI w t e).length) (Q:=fun i s=>∀(h1:i<(ZI w t e).length) (h2:i<e.kids.length),F.f161 w (ZI w t e)[i] e.kids[i]=some s/\s.size+1<=1048580*(1+e.kids[i].wt)) (fun i hi=>by
   obtain⟨s,q⟩:=P.YAX w hw hs d (ZI w t e)[i] (e.kids[i]'(by omega)) (g4 _ (gM hi)) (hkw i (by omega)) (h3 i (by omega) hi hi (by omega))
   exact⟨s,fun _ _=>q⟩)
  have hT:=ZDO 1048580 T e.kids (by omega) fun i hi hi'=>(k2 i hi (by omega) hi').2
  rw[←hwt]at hT
  have hT2:ZAb T<=140737488355328:=by
   have:1048580*e.wt<=1048580*1048576:=Nat.mul_le_mul_left _ he
   omega
  have hloop:=P.Yh w t e _ h2 (by omega) T k1 (fun i hi q1 q2=>(k2 i hi q1 q2).1) T.length (Nat.le_refl _)
  rw[Nat.sub_self,List.take_zero]at hloop
  have hlist:=P.YAL T hT2
  have z0:(⟨#[40]⟩:ByteArray).size=1:=rfl
  have z1:(⟨#[44]⟩:ByteArray).size=1:=rfl
  have z2:(⟨#[41]⟩:ByteArray).size=1:=rfl
  have z3:=ZFJ z0 z1 T
  have hmul:1048580*(1+e.wt)=1048580+1048580*e.wt:=by rw[Nat.mul_add]
  rw[F.f161,F.f155,g2]
  simp only[oE,oS]
  rw[hloop]
  simp only[oS]
  have h1':=h1
  unfold ZA9 at h1'
  rcases h1' with⟨o,_⟩|⟨o,v0,v1,_⟩|⟨o,_,_,_,n0,n1,n9⟩|⟨o,_,_,_,hc⟩|⟨o,_⟩|⟨o,v0,v1,_⟩
  ·rw[if_pos o]
   exact⟨_,rfl,by show 1+1<=_;omega⟩
  ·rw[if_neg (by omega),if_pos o,P.YAA]
   exact⟨_,rfl,by show 1+1<=_;omega⟩
  ·obtain⟨s,y1,y2⟩:=P.YAj n0 n1 n9
   simp only[if_neg (show ¬e.op=1 by omega),if_neg (show ¬e.op=2 by omega),if_pos o,y1,oS]
   exact⟨_,rfl,by omega⟩
  ·have hpt:ZI w t e=ZO w t e.ctor:=by unfold ZI;rw[if_pos o]
   rw[hpt]at h2 h3 k1 k2
   rw[if_neg (by omega),if_neg (by omega),if_neg (by omega),if_pos o]
   have hd:=ZBw (ZA8 ht.1) (ZV hc).1
   have hcn:(Zc w t e.ctor).name.size<=1048576:=hs.2 _ hd.2.1 _ (ZAp hc).2
   rw[hd.1]
   simp only[oS]
   rw[(ZAp hc).1]
   simp only[oS]
   rw[hlist]
   simp only[oS]
   have hp0:ZIl ⟨#[40]⟩ ⟨#[44]⟩ []=ByteArray.empty:=by simp[ZIl]
   by_cases hT0:T=[]
   ·subst hT0
    simp only[if_true,hp0,ZHZ]
    rw[if_pos (by show _+0<=_;omega)]
    exact⟨_,rfl,by omega⟩
   ·rw[if_neg hT0,if_pos (by rw[ZZ];omega)]
    refine⟨_,rfl,?_⟩
    rw[ZZ,ZZ];omega
  ·have hpt:ZI w t e=[t,t]:=ZAU h1 o
   rw[hpt]at h2 h3 k1
   simp only[hpt]at k2
   obtain⟨a,b,rfl⟩:∃a b,T=[a,b]:=by
    match T,k1 with
    | [a,b],_=>exact⟨a,b,rfl⟩
   have hL:ZAb [a,b]=1+a.size+(1+b.size):=by simp[ZAb]
   have z4:(⟨#[124]⟩:ByteArray).size=1:=rfl
   rw[if_neg (by omega),if_neg (by omega),if_neg (by omega),if_neg (by omega),if_pos o]
   simp only[oS,List.getElem?_cons_zero,List.getElem?_cons_succ]
   rw[if_pos (by omega),if_pos (by rw[ZZ];omega),if_pos (by rw[ZZ,ZZ];omega),if_pos (by rw[ZZ,ZZ,ZZ];omega)]
   refine⟨_,rfl,?_⟩
   iterate 4 rw[ZZ]
   omega
  ·have hpt:ZI w t e=[t]:=by unfold ZI;rw[if_neg (by omega),if_neg (by omega),if_pos o]
   rw[hpt]at h2 h3 k1
   simp only[hpt]at k2
   obtain⟨a,rfl⟩:∃a,T=[a]:=by
    match T,k1 with
    | [a],_=>exact⟨a,rfl⟩
   have hL:ZAb [a]=1+a.size:=by simp[ZAb]
   have z4:(⟨#[64]⟩:ByteArray).size=1:=rfl
   have y3:(ZC5 [IntKind.u8.wrap (i64.wrap (97+e.var))]).size=1:=rfl
   rw[if_neg (by omega),if_neg (by omega),if_neg (by omega),if_neg (by omega),if_neg (by omega),P.YAA]
   simp only[oS,List.getElem?_cons_zero]
   rw[if_pos (by omega),if_pos (by rw[ZZ];omega)]
   refine⟨_,rfl,?_⟩
   rw[ZZ,ZZ]
   omega
theorem P.YAE (w:List Data)(hw:ZN w)(hs:Zu w)(t:Ty)(ht:Zb w t)(c:Clause)(hp:c.pat.wt<=1048576)(hc:ZIZ w t c):
  ∃p,F.f161 w t c.pat=some p/\p.size<=1099516870660/\(ZEo c.guard).size<=4/\
   (c.guard.op≠0->∃g,F.f163 c.guard=some g/\ZEo c.guard=⟨#[32]⟩++g/\g.size=3):=by
 obtain⟨p,e2,e3⟩:=P.YAX w hw hs 10 t c.pat ht hp hc.1.1
 have hb:p.size<=1099516870660:=by
  have:1048580*(1+c.pat.wt)<=1048580*(1+1048576):=Nat.mul_le_mul_left _ (by omega)
  omega
 have z0:(⟨#[32]⟩:ByteArray).size=1:=rfl
 have z1:(⟨#[60]⟩:ByteArray).size=1:=rfl
 have z2:(⟨#[61]⟩:ByteArray).size=1:=rfl
 have y3:(ZC5 [IntKind.u8.wrap (i64.wrap (97+c.guard.var))]).size=1:=rfl
 refine⟨p,e2,hb,?_⟩
 unfold F.f163 ZEo
 have hg:=hc.2
 unfold gOk at hg
 rcases hg with⟨g0,_⟩|⟨g1,n0,n9,_⟩
 ·refine⟨?_,fun h=>absurd g0 h⟩
  rw[if_pos g0];show 0<=4;omega
 ·have a3:=ZEm n0 n9
  rw[P.YAA,ZMl n0 n9]
  simp only[oE,oS]
  rcases g1 with g1|g1
  ·simp only[if_pos g1,if_neg (show ¬c.guard.op=0 by omega)]
   refine⟨?_,fun _=>⟨_,?_,rfl,?_⟩⟩
   ·rw[ZZ,ZZ,ZZ];omega
   ·rw[if_pos (by omega),if_pos (by rw[ZZ];omega)]
   ·rw[ZZ,ZZ];omega
  ·simp only[if_pos g1,if_neg (show ¬c.guard.op=0 by omega),if_neg (show ¬c.guard.op=1 by omega)]
   refine⟨?_,fun _=>⟨_,?_,rfl,?_⟩⟩
   ·rw[ZZ,ZZ,ZZ];omega
   ·rw[if_pos (by omega),if_pos (by rw[ZZ];omega)]
   ·rw[ZZ,ZZ];omega
noncomputable def ZIY (w:List Data)(t:Ty)(c:Clause):ByteArray:=(F.f161 w t c.pat).getD ByteArray.empty++ZEo c.guard
theorem P.Yn (w:List Data)(hw:ZN w)(hs:Zu w)(t:Ty)(ht:Zb w t)(l:List Clause)(hl:l.length<=8)(hp:∀c,c∈l->c.pat.wt<=1048576)(hc:∀c,c∈l->ZIZ w t c):
  F.f165 w t l=some (ZCD (l.map (ZIY w t)) ⟨#[47]⟩):=by
 have z:(⟨#[47]⟩:ByteArray).size=1:=rfl
 have z0:(⟨#[32]⟩:ByteArray).size=1:=rfl
 have tx:∀c,c∈l->∃p,F.f161 w t c.pat=some p/\p.size<=1099516870660/\(ZEo c.guard).size<=4/\ZIY w t c=p++ZEo c.guard/\(c.guard.op≠0->∃g,F.f163 c.guard=some g/\ZEo c.guard=⟨#[32]⟩++g/\g.size=3):=fun c h=>by
  obtain⟨p,a1,a2,a4,a5⟩:=P.YAE w hw hs t ht c (hp c h) (hc c h)
  exact⟨p,a1,a2,a4,by unfold ZIY;rw[a1];rfl,a5⟩
 have hI:∀m i out,l.length-i=m->out.length+m<=8->F.f164 w t l i out=some (out++(l.drop i).map (ZIY w t)):=by
  intro m
  induction m with
  |zero=>intro i out h _;rw[F.f164,if_neg (by omega),List.drop_eq_nil_of_le (by omega)];simp
  |succ m ih=>
   intro i out h ho
   have hi:i<l.length:=by omega
   have q1:l.length- (i+1)=m:=by omega
   have q2:∀x:ByteArray,(out++[x]).length+m<=8:=fun x=>by rw[List.length_append,List.length_singleton];omega
   have hlen:out.length+1<=67108864:=by omega
   obtain⟨p,b1,b2,b3,b4,b5⟩:=tx _ (gM hi)
   rw[F.f164,if_pos hi,gQ hi]
   simp only[oE,oS]
   rw[b1]
   simp only[oS]
   have fin:F.f164 w t l (i+1) (out++[ZIY w t l[i]])=some (out++(l.drop i).map (ZIY w t)):=by
    rw[ih (i+1) (out++[ZIY w t l[i]]) q1 (q2 _),List.drop_eq_getElem_cons hi,List.map_cons,List.append_assoc]
    rfl
   rw[if_pos hlen]
   by_cases g0:l[i].guard.op=0
   ·rw[if_pos g0]
    have e:ZEo l[i].guard=ByteArray.empty:=by unfold ZEo;rw[if_pos g0]
    rw[b4,e,ZHZ]at fin
    exact fin
   ·obtain⟨g,c1,c2,c3⟩:=b5 g0
    rw[if_neg g0,c1]
    simp only[oS]
    rw[if_pos (by omega),if_pos (by rw[ZZ];omega),if_pos hlen,←c2,←b4]
    exact fin
 have hb:ZAb (l.map (ZIY w t))<=8796134965320:=by
  have:=ZKq (l.map (ZIY w t)) 1099516870665 fun x hx=>by
   obtain⟨c,h,rfl⟩:=List.mem_map.1 hx
   obtain⟨p,b1,b2,b3,b4,_⟩:=tx c h
   rw[b4,ZZ];omega
  rw[List.length_map]at this
  have h2:l.length*1099516870665<=8*1099516870665:=Nat.mul_le_mul_right _ hl
  omega
 unfold F.f165 F.f159
 rw[hI _ 0 [] rfl (by simp;omega)]
 simp only[oE,oS,List.nil_append,List.drop_zero]
 rw[if_pos (ZFW z (by omega))]
 rfl
theorem ZD7 (c:ByteArray):∀(rs ks:List ByteArray),ks≠[]->∃r,ZCD (ks++rs) c=ZCD ks c++r
 | [],ks,h=>⟨ByteArray.empty,by rw[List.append_nil,ZHZ]⟩
 |x::rest,ks,h=>by
  obtain⟨r,e⟩:=ZD7 c rest (ks++[x]) (by simp)
  refine⟨c++x++r,?_⟩
  rw[show ks++x::rest=(ks++[x])++rest by simp,e,ZD6 x c h]
  simp only[ZHa]
theorem P.YI (w:List Data)(hw:Zu w)(t:Ty)(l:List Clause)(hp:∀c,c∈l->c.pat.wt<=1048576)(h:ZO5 w t l):F.f166 w t l=some (ZCD (l.map (ZIY w t)) ⟨#[47]⟩):=by
 unfold F.f166
 rw[P.YC w hw t l hp]
 simp only[oE,oS]
 rw[if_pos (ZG h),P.Yn w h.1.1 hw t h.1.2 l h.2.1 hp h.2.2]
 rfl
theorem P.YX (code:List Int)(hc:ZDa code):∃w t l,F.f100 code=some (w,t,l)/\Zu w/\∀c,c∈l->c.pat.wt<=1048576:=by
 have key:∀r,rok 0 r->∃w t l,((F.f91 r)>>=fun v=>
   (F.f96 v.2.2.2.2 v.1)>>=fun v6=>
   (F.f99 v6.2 v.2.2.1)>>=fun v8=>
   some (v6.1,v.2.1,v8.1))=some (w,t,l)/\Zu w/\∀c,c∈l->c.pat.wt<=1048576:=by
  intro r hr
  obtain⟨w,t,l,v,r1,T,e1,h1,hw,_,_,ht,hl,hp,_,_⟩:=P.YAe hr (by omega)
  obtain⟨w',r2,e2,h2,hs⟩:=P.YAd h1 (by omega) hw
  obtain⟨l',r3,e3,h3,_,hp3⟩:=P.YAY h2 (by omega) l (by omega) (fun c h=>by have:=(hp c h).2.2;omega)
  rw[e1]
  simp only[oE,oS]
  rw[e2]
  simp only[oS]
  rw[e3]
  exact⟨w',t,l',rfl,hs,fun c h=>by have:=hp3 c h;omega⟩
 unfold F.f100
 by_cases hcl:2000<code.length
 ·rw[if_pos hcl,if_pos (by omega)];exact key _ (ZMB hc)
 ·rw[if_neg hcl];exact key _ (ZKN hc (by omega))
end Go.Vl
