/- A part of the proof. -/
import Derived.Test.YtnmbhmbljbhonaaNodesPrefixB1
set_option linter.all false
set_option maxRecDepth 100000
namespace Go.Vl
open Go Go.RowKit
open Go.IntKind (i64)
theorem P.YAG (rows:List ZA)(c:Int)(hr:rows.length<=67108864):∀(m i:Nat) (out:List ZA),rows.length-i=m->i<=rows.length->out.length<=i->(∀r,r∈out->r∈rows)->
  ∃l,F.f123 rows c out i=some l/\l.length<=rows.length/\∀r,r∈l->r∈rows
 |m,i,out,hm,hir,ho,hq=>by
  rw[F.f123]
  by_cases hi:i<rows.length
  ·rw[if_pos hi,gQ hi]
   simp only[oE,oS]
   match m,hm with
   |0,hm=>omega
   |m+1,hm=>
    split
    ·exact P.YAG rows c hr m (i+1) out (by omega) (by omega) (by omega) hq
    ·rw[if_pos (by omega)]
     exact P.YAG rows c hr m (i+1) _ (by omega) (by omega) (by simp;omega) fun r h=>by
      rcases List.mem_append.1 h with h|h
      ·exact hq r h
      ·rw[List.mem_singleton.1 h];exact gM hi
  ·rw[if_neg hi];exact⟨out,rfl,by omega,hq⟩
theorem P.YAi (rows:List ZA)(c:Int)(hr:rows.length<=67108864):∃l,F.f124 rows c=some l/\l.length<=rows.length/\∀r,r∈l->r∈rows:=by
 obtain⟨l,e,h⟩:=P.YAG rows c hr _ 0 [] rfl (by omega) (by simp) (by simp)
 unfold F.f124
 rw[e]
 exact⟨l,rfl,h⟩
theorem P.YAJ (rows:List ZA)(a:Nat)(hr:rows.length<=67108864)(ha:∀r,r∈rows->a<r.f1.length):∀(m i n:Nat),rows.length-i=m->n<=i->i<=rows.length->∃c,F.f125 rows (a:Int) n i=some c
 |m,i,n,hm,hn,hir=>by
  rw[F.f125]
  by_cases hi:i<rows.length
  ·rw[if_pos hi,gQ hi]
   simp only[oE,oS]
   rw[ZAD (ha _ (gM hi))]
   simp only[oS]
   match m,hm with
   |0,hm=>omega
   |m+1,hm=>
    split
    ·exact P.YAJ rows a hr ha m (i+1) n (by omega) (by omega) (by omega)
    ·rw[if_pos (by omega)]
     exact P.YAJ rows a hr ha m (i+1) (n+1) (by omega) (by omega) (by omega)
  ·rw[if_neg hi];exact⟨n,rfl⟩
theorem P.YAM (rows:List ZA)(a:Nat)(hr:rows.length<=67108864)(ha:∀r,r∈rows->a<r.f1.length):∃c,F.f126 rows (a:Int)=some c:=by
 obtain⟨c,e⟩:=P.YAJ rows a hr ha _ 0 0 rfl (by omega) (by omega)
 unfold F.f126
 rw[e]
 exact⟨_,rfl⟩
theorem P.YA6 (rows:List ZA)(a:Nat)(n:Int)(ha:∀r,r∈rows->a<r.f1.length):∀(m i:Nat),rows.length-i=m->∃c,F.f131 rows (a:Int) n i=some c
 |m,i,hm=>by
  rw[F.f131]
  by_cases hi:i<rows.length
  ·rw[if_pos hi,gQ hi]
   simp only[oE,oS]
   rw[ZAD (ha _ (gM hi))]
   simp only[oS]
   match m,hm with
   |0,hm=>omega
   |m+1,hm=>
    split
    ·split
     ·exact⟨_,rfl⟩
     ·split
      ·exact⟨_,rfl⟩
      ·exact P.YA6 rows a n ha m (i+1) (by omega)
    ·exact P.YA6 rows a n ha m (i+1) (by omega)
  ·rw[if_neg hi];exact⟨_,rfl⟩
theorem P.YBA (rows:List ZA)(a:Nat)(n:Int)(ha:∀r,r∈rows->a<r.f1.length):∃c,F.f132 rows (a:Int) n=some c:=by
 obtain⟨c,e⟩:=P.YA6 rows a n ha _ 0 rfl
 unfold F.f132
 rw[e]
 cases c<;>exact⟨_,rfl⟩
def ZFS (w:List Data)(t:Ty)(b:Branch):Prop:=if t.data= -1 then b.ctor= -1 else b.ctor∈ZP w t
theorem P.YAP (w:List Data)(t:Ty)(h1:t.data= -1)(rows:List ZA)(a:Nat)(ha:∀r,r∈rows->a<r.f1.length):∀(m n f:Nat) (out:List Branch),11-n=m->out.length<=n->n<=11->(∀b,b∈out->ZFS w t b)->
  ∃l,F.f134 rows (a:Int) out f n=some l/\l.length<=11/\∀b,b∈l->ZFS w t b
 |0,n,f,out,hm,ho,hn,hb=>by rw[F.f134,if_neg (by omega)];exact⟨out,rfl,by omega,hb⟩
 |m+1,n,f,out,hm,ho,hn,hb=>by
  have hb2:∀b,b∈out++[(⟨-1,(f:Int),i64.wrap ((n:Int) -1),⟨0,0,[],[],[],[]⟩⟩:Branch)]->ZFS w t b:=fun b h=>by
   rcases List.mem_append.1 h with h|h
   ·exact hb b h
   ·rw[List.mem_singleton.1 h];unfold ZFS;rw[if_pos h1]
  rw[F.f134,if_pos (by omega)]
  split
  ·rw[if_pos (by omega),if_pos (by omega)]
   exact P.YAP w t h1 rows a ha m (n+1) n _ (by omega) (by simp;omega) (by omega) hb2
  ·obtain⟨c,e⟩:=P.YBA rows a n ha
   rw[e]
   simp only[oE,oS]
   split
   ·rw[if_pos (by omega),if_pos (by omega)]
    exact P.YAP w t h1 rows a ha m (n+1) n _ (by omega) (by simp;omega) (by omega) hb2
   ·rw[if_pos (by omega)]
    exact P.YAP w t h1 rows a ha m (n+1) f out (by omega) (by omega) (by omega) hb
theorem ZMj {w:List Data}{t:Ty}(h:ZY w t):tIx w t:=by
 obtain⟨h1|h1,h2⟩:=h
 ·exact .inl h1.1
 ·exact .inr ⟨h1.1,h1.2.1,h2,h1.2.2.2⟩
theorem P.YAs (c:Int)(ts:List Ty)(hl:ts.length<=67108864):∀(m i:Nat) (out:List Pattern),ts.length-i=m->out.length+m<=67108864->F.f127 c ts out i=some (out++List.replicate m anyP0)
 |0,i,out,hm,ho=>by rw[F.f127,if_neg (by omega)];simp
 |m+1,i,out,hm,ho=>by
  have hi:i<ts.length:=by omega
  rw[F.f127,if_pos hi,P.YAN]
  simp only[oE,oS]
  rw[if_pos (by omega),P.YAs c ts hl m (i+1) _ (by omega) (by simp;omega),List.replicate_succ]
  simp
theorem P.YA2 {w:List Data}(hw:ZT w){t:Ty}(ht:tOk w t){c:Int}(h:c∈ZP w t):F.f128 w t c=some ⟨4,c,0,0,0,List.replicate (ZQ w t c).length anyP0⟩:=by
 have h3:=(ZGN hw ht h).1
 unfold F.f128
 rw[P.YA w hw t ht c h]
 simp only[oE,oS]
 rw[P.YAs c _ (by omega) _ 0 [] rfl (by simp;omega)]
 simp
theorem P.YAg {w:List Data}{T:List Int}(h:TOk w T)(p:Pattern)(ts:List Ty)(ht:∀a,a∈ts->ZY w a)(hp:p.kids=List.replicate ts.length anyP0):∀(m i:Nat),ts.length-i=m->∃r,F.f130 w T p ts i=some r
 |m,i,hm=>by
  rw[F.f130]
  by_cases hi:i<ts.length
  ·rw[if_pos hi,gQ hi,hp,gQ (by simpa using hi)]
   simp only[oE,oS,List.getElem_replicate]
   rw[F.f129,if_pos (show anyP0.op=1 from rfl),P.YD h (ZMj (ht _ (gM hi)))]
   simp only[oE,oS]
   match m,hm with
   |0,hm=>omega
   |m+1,hm=>
    split
    ·exact P.YAg h p ts ht hp m (i+1) (by omega)
    ·exact⟨_,rfl⟩
  ·rw[if_neg hi];exact⟨_,rfl⟩
theorem P.YAl {w:List Data}{T:List Int}(h:TOk w T){t:Ty}(ht:ZY w t){c:Int}(hc:c∈ZP w t):∃b,F.f129 w T t ⟨4,c,0,0,0,List.replicate (ZQ w t c).length anyP0⟩=some b:=by
 rw[F.f129,if_neg (show ¬(4:Int)=1 by decide),if_neg (show ¬(4:Int)=3 by decide),P.YA w h.wok t (ZAJ ht.1) c hc]
 simp only[oE,oS]
 obtain⟨r,e⟩:=P.YAg h ⟨4,c,0,0,0,List.replicate (ZQ w t c).length anyP0⟩ (ZQ w t c) (ZBM h.wok ht hc) rfl _ 0 rfl
 rw[e]
 cases r<;>exact⟨_,rfl⟩
theorem P.YAe {w:List Data}{T:List Int}(h:TOk w T){col:ZB}(ht:ZY w col.f1):∀(m i:Nat) (out:List Branch),(ZP w col.f1).length-i=m->out.length+m<=100->(∀b,b∈out->ZFS w col.f1 b)->
  ∃l,F.f133 w col T (ZP w col.f1) out i=some l/\l.length<=out.length+m/\∀b,b∈l->ZFS w col.f1 b
 |0,i,out,hm,ho,hb=>by rw[F.f133,if_neg (by omega)];exact⟨out,rfl,by omega,hb⟩
 |m+1,i,out,hm,ho,hb=>by
  have hi:i<(ZP w col.f1).length:=by omega
  have hc:=gM hi
  obtain⟨b,e⟩:=P.YAl h ht hc
  rw[F.f133,if_pos hi,gQ hi]
  simp only[oE,oS]
  rw[P.YA2 h.wok (ZAJ ht.1) hc]
  simp only[oS]
  rw[e]
  simp only[oS]
  split
  ·rw[if_pos (by omega)]
   obtain⟨l,e2,a,b2⟩:=P.YAe h ht m (i+1) (out++[⟨(ZP w col.f1)[i],0,0,⟨0,0,[],[],[],[]⟩⟩]) (by omega) (by simp;omega) (fun b hb2=>by
    rcases List.mem_append.1 hb2 with hb2|hb2
    ·exact hb b hb2
    ·rw[List.mem_singleton.1 hb2];unfold ZFS;rw[if_neg (ZZ hc).1];exact hc)
   exact⟨l,e2,by simp at a;omega,b2⟩
  ·obtain⟨l,e2,a,b2⟩:=P.YAe h ht m (i+1) out (by omega) (by omega) hb
   exact⟨l,e2,by omega,b2⟩
theorem P.YAI {w:List Data}{T:List Int}(h:TOk w T)(hT:F.f53 w=some T){col:ZB}(ht:ZY w col.f1)(hcl:(ZP w col.f1).length<=50)(rows:List ZA)(a:Nat)(ha:∀r,r∈rows->a<r.f1.length):
  ∃l,F.f135 w col rows (a:Int)=some l/\l.length<=50/\∀b,b∈l->ZFS w col.f1 b:=by
 unfold F.f135
 split
 ·next h1=>
  obtain⟨l,e,b,c⟩:=P.YAP w col.f1 h1 rows a ha _ 1 0 [] rfl (by simp) (by omega) (by simp)
  rw[e]
  exact⟨l,rfl,by omega,c⟩
 ·rw[hT]
  simp only[oE,oS]
  rw[P.YE w h.wok _ (ZAJ ht.1)]
  simp only[oS]
  obtain⟨l,e,b,c⟩:=P.YAe h ht _ 0 [] rfl (by simp;omega) (by simp)
  rw[e]
  exact⟨l,rfl,by simp at b;omega,c⟩
theorem ZBA {w:List Data}(hw:ZT w){t:Ty}(ht:tOk w t):(ZP w t).length<=4:=by
 unfold ZP
 split
 ·simp
 ·next hn=>
  have:=(Zp hw ht hn).1
  have h2:=ZD9 t.index 0 (Zj w t).ctors
  omega
structure CompOk (w:List Data)(n:Nat)(cols:List ZB)(rows:List ZA)(B:Nat):Prop where
 okC:ColsOk w cols B
 okR:∀r,r∈rows->RowOk w cols n 60 r
 few:rows.length<=4000
theorem P.YAX {w:List Data}{T:List Int}(h:TOk w T)(hT:F.f53 w=some T){n:Nat}{cols:List ZB}{rows:List ZA}{B:Nat}(hc:CompOk w n cols rows B)(hB:B<=100000)(h0:0<rows.length)(pick:Int):
  ∀(m i best:Nat),cols.length-i=m->(∃h:best<(rows[0]).f1.length,(rows[0]).f1[best].op≠1)->∃b:Nat,F.f136 w cols rows pick (i:Int) (best:Int)=some (b:Int)/\∃h:b<(rows[0]).f1.length,(rows[0]).f1[b].op≠1
 |m,i,best,hm,hb=>by
  have hr0:=hc.okR _ (gM h0)
  have hlen:=hr0.len
  have hcl:=hc.okC.len
  have hall:∀a,a<cols.length->∀r,r∈rows->a<r.f1.length:=fun a ha r hr=>by rw[(hc.okR r hr).len];exact ha
  rw[F.f136]
  by_cases hi:i<cols.length
  ·rw[if_pos (by omega)]
   split
   ·exact⟨best,rfl,hb⟩
   ·rw[gQ h0]
    simp only[oE,oS]
    rw[ZAD (by omega:i<(rows[0]).f1.length)]
    simp only[oS]
    have hw1:i64.wrap ((i:Int)+1)=((i+1:Nat):Int):=by rw[ZG (by omega) (by omega)];omega
    rw[hw1]
    obtain⟨hbl,hbo⟩:=hb
    match m,hm with
    |0,hm=>omega
    |m+1,hm=>
     split
     ·exact P.YAX h hT hc hB h0 pick m (i+1) best (by omega) ⟨hbl,hbo⟩
     ·next h1=>
      have hrec:=fun(b:Nat) (hb:∃h:b<(rows[0]).f1.length,(rows[0]).f1[b].op≠1)=>P.YAX h hT hc hB h0 pick m (i+1) b (by omega) hb
      have r1:=hrec best ⟨hbl,hbo⟩
      have r2:=hrec i ⟨by omega,h1⟩
      split
      ·obtain⟨c1,e1⟩:=P.YAM rows i (by have:=hc.few;omega) (hall i hi)
       obtain⟨c2,e2⟩:=P.YAM rows best (by have:=hc.few;omega) (hall best (by omega))
       rw[e1]
       simp only[oS]
       rw[e2]
       simp only[oS]
       split
       ·exact r2
       ·exact r1
      ·split
       ·have hbc:best<cols.length:=by omega
        have t1:=hc.okC.ty _ (gM hi)
        have t2:=hc.okC.ty _ (gM hbc)
        obtain⟨l1,e1,_⟩:=P.YAI h hT t1 (by have:=ZBA h.wok (ZAJ t1.1);omega) rows i (hall i hi)
        obtain⟨l2,e2,_⟩:=P.YAI h hT t2 (by have:=ZBA h.wok (ZAJ t2.1);omega) rows best (hall best hbc)
        rw[ZAD hi]
        simp only[oS]
        rw[e1]
        simp only[oS]
        rw[ZAD hbc]
        simp only[oS]
        rw[e2]
        simp only[oS]
        split
        ·exact r2
        ·exact r1
       ·exact r1
  ·rw[if_neg (by omega)];exact⟨best,rfl,hb⟩
theorem P.YAy {w:List Data}{T:List Int}(h:TOk w T)(hT:F.f53 w=some T){n:Nat}{cols:List ZB}{rows:List ZA}{B:Nat}(hc:CompOk w n cols rows B)(hB:B<=100000)(h0:0<rows.length)(pick:Int)
  {k:Nat} (hk:k<(rows[0]).f1.length) (he:F.f119 rows[0]=some (k:Int)) (ho:(rows[0]).f1[k].op≠1):∃b:Nat,F.f137 w cols rows pick=some (b:Int)/\∃h:b<(rows[0]).f1.length,(rows[0]).f1[b].op≠1:=by
 have hlen:=(hc.okR _ (gM h0)).len
 have hcl:=hc.okC.len
 unfold F.f137
 rw[gQ h0]
 simp only[oE,oS]
 rw[he]
 simp only[oS]
 rw[ZG (by omega) (by omega),show((k:Int)+1)=((k+1:Nat):Int)from by omega]
 obtain⟨b,e,hb⟩:=P.YAX h hT hc hB h0 pick _ (k+1) k rfl ⟨hk,ho⟩
 rw[e]
 exact⟨b,rfl,hb⟩
def Zi (path:List Int):Nat->List Ty->List ZB
 |_,[]=>[]
 |k,t::r=>⟨path++[(k:Int)],t⟩::Zi path (k+1) r
theorem Zg (path:List Int):∀(k:Nat) (ts:List Ty),(Zi path k ts).length=ts.length
 |_,[]=>rfl
 |k,t::r=>by simp[Zi,Zg path (k+1) r]
theorem ZBB (path:List Int):∀(k:Nat) (ts:List Ty) (i:Nat) (h:i<(Zi path k ts).length) (h':i<ts.length),(Zi path k ts)[i]=⟨path++[((k+i:Nat):Int)],ts[i]⟩
 |k,[],i,h,h'=>absurd h' (by simp)
 |k,t::r,0,h,h'=>rfl
 |k,t::r,i+1,h,h'=>by
  have:=ZBB path (k+1) r i (by simpa[Zi]using h) (by simpa using h')
  simp only[Zi,List.getElem_cons_succ,this]
  congr 3
  omega
noncomputable def Zn (w:List Data)(c:ZB)(b:Branch):List Ty:=if b.ctor= -1 then[]else ZQ w c.f1 b.ctor
noncomputable def ZX (w:List Data)(cols:List ZB)(a:Nat)(c:ZB)(b:Branch):List ZB:=cols.take a++Zi c.f0 0 (Zn w c b)++cols.drop (a+1)
theorem P.YAL (cols:List ZB)(a:Nat)(ha:a<cols.length)(hp:cols[a].f0.length<=1048576)(ts:List Ty):∀(m i:Nat) (out:List ZB),ts.length-i=m->out.length+m<=67108864->F.f139 cols (a:Int) ts out i=some (out++Zi cols[a].f0 i (ts.drop i))
 |0,i,out,hm,ho=>by rw[F.f139,if_neg (by omega),List.drop_eq_nil_of_le (by omega)];simp[Zi]
 |m+1,i,out,hm,ho=>by
  have hi:i<ts.length:=by omega
  rw[F.f139,if_pos hi,ZAD ha]
  simp only[oE,oS]
  unfold F.f138
  rw[if_pos (by omega),if_pos (by omega)]
  simp only[oS]
  rw[gQ hi]
  simp only[oS]
  rw[if_pos (by omega),P.YAL cols a ha hp ts m (i+1) _ (by omega) (by simp;omega),List.drop_eq_getElem_cons hi]
  simp[Zi]
theorem ZCJ {w:List Data}(hw:ZT w){c:ZB}(ht:ZY w c.f1){b:Branch}(hb:ZFS w c.f1 b):(Zn w c b).length<=3/\∀t,t∈Zn w c b->ZY w t:=by
 unfold Zn
 unfold ZFS at hb
 split
 ·simp
 ·next h1=>
  split at hb
  ·exact absurd hb h1
  ·exact⟨(ZGN hw (ZAJ ht.1) hb).1,ZBM hw ht hb⟩
theorem P.Yz {w:List Data}(hw:ZT w){cols:List ZB}{B:Nat}(hc:ColsOk w cols B)(hB:B<=100000){a:Nat}(ha:a<cols.length){b:Branch}(hb:ZFS w cols[a].f1 b):F.f140 w cols (a:Int) b=some (ZX w cols a cols[a] b):=by
 have hl:=hc.len
 have ht:=hc.ty _ (gM ha)
 have hp:=hc.path _ (gM ha)
 have hw1:i64.wrap ((a:Int)+1)=((a+1:Nat):Int):=by rw[ZG (by omega) (by omega)];omega
 have hn:=ZCJ hw ht hb
 unfold F.f140
 rw[hw1]
 simp only[Int.toNat_natCast,List.drop_zero,Nat.sub_zero]
 have hdrop:(cols.drop (a+1)).take (cols.length- (a+1))=cols.drop (a+1):=List.take_of_length_le (by simp)
 rw[hdrop,if_pos (by omega),if_pos (by simp;omega)]
 by_cases h1:b.ctor= -1
 ·rw[if_pos h1,if_pos (by omega),if_pos (by simp;omega)]
  simp[ZX,Zn,h1,Zi]
 ·unfold ZFS at hb
  split at hb
  ·exact absurd hb h1
  ·have e:Zn w cols[a] b=ZQ w cols[a].f1 b.ctor:=by unfold Zn;rw[if_neg h1]
   rw[e]at hn
   rw[if_neg h1,ZAD ha]
   simp only[oE,oS]
   rw[P.YA w hw _ (ZAJ ht.1) _ hb]
   simp only[oS]
   rw[P.YAL cols a ha (by omega) _ _ 0 _ rfl (by simp;omega)]
   simp only[oS]
   rw[if_pos (by omega),if_pos (by simp[Zg];omega)]
   simp[ZX,e]
def ZJa (p:Pattern)(j:Nat):Nat:=if p.op=4 then((p.kids.drop j).map fun k=>1+k.wt).sum else 0
theorem ZGy :anyP0.wt=0:=by rw[Pattern.wt_eq];rfl
set_option maxHeartbeats 4000000 in
theorem P.YBB {w:List Data}(cols:List ZB)(rows:List ZA){a nl S:Nat}(ha:a<cols.length)(hcl:cols.length<=100000)(hnl:nl<=3)(b:Branch)(v:List ZB)(hv:v.length=a+nl+(cols.length- (a+1)))
  (out:List ZA) (i:Nat) (x:Pattern) (f0:Int) (hS:S<=1000)
  (hvp:∀k (h:k<v.length),v[k].f0.length<=10)
  (hx:x.op=4->x.kids.length=nl) (hk:x.op=4->∀j (h:j<x.kids.length) (h':a+j<v.length),ZFP w (10-v[a+j].f0.length) v[a+j].f1 x.kids[j]):
  ∀(m j:Nat) (z:List PathBind) (o:List Pattern),nl-j=m->j<=nl->o.length=a+j->(∀k (h:k<o.length) (h':k<v.length),ZLB w v[k].f0.length v[k].f1 o[k])->(∀b,b∈z->b.path.length<=10)->z.length+(o.map Pattern.wt).sum+ZJa x j<=S->
  ∃z' o',F.f142 cols rows (a:Int) b v out i x f0 z o ((a+j:Nat):Int)=some (f0,z',o')/\o'.length=a+nl/\(∀k (h:k<o'.length) (h':k<v.length),ZLB w v[k].f0.length v[k].f1 o'[k])/\(∀b,b∈z'->b.path.length<=10)/\z'.length+(o'.map Pattern.wt).sum<=S:=by
 have e1:i64.wrap ((v.length:Int) -i64.wrap (i64.wrap ((cols.length:Int) - (a:Int)) -1))=((a+nl:Nat):Int):=by
  have a1:i64.wrap ((cols.length:Int) - (a:Int))=(cols.length:Int) - (a:Int):=ZG (by omega) (by omega)
  have a2:i64.wrap ((cols.length:Int) - (a:Int) -1)=(cols.length:Int) - (a:Int) -1:=ZG (by omega) (by omega)
  rw[a1,a2,ZG (by omega) (by omega)]
  omega
 have ol:∀l:List Pattern,l.length<=100010->l.length+1<=67108864:=fun l h=>by omega
 intro m
 induction m with
 |zero=>
  intro j z o hm hj ho hc hz hs
  rw[F.f142.eq_def,e1,if_neg (by omega)]
  exact⟨z,o,rfl,by omega,hc,hz,by omega⟩
 |succ m ih=>
  intro j z o hm hj ho hc hz hs
  have hlt:j<nl:=by omega
  rw[F.f142.eq_def,e1]
  have hva:a+j<v.length:=by omega
  have hw1:i64.wrap (((a+j:Nat):Int)+1)=((a+(j+1):Nat):Int):=by rw[ZG (by omega) (by omega)];omega
  rw[if_pos (by omega),P.YAN,hw1]
  simp only[oE,oS]
  have next:∀(z':List PathBind) (q:Pattern),ZLB w v[a+j].f0.length v[a+j].f1 q->(∀b,b∈z'->b.path.length<=10)->z'.length+q.wt+(o.map Pattern.wt).sum+ZJa x (j+1)<=S->
    ∃z'' o',F.f142 cols rows (a:Int) b v out i x f0 z' (o++[q]) ((a+(j+1):Nat):Int)=some (f0,z'',o')/\o'.length=a+nl/\(∀k (h:k<o'.length) (h':k<v.length),ZLB w v[k].f0.length v[k].f1 o'[k])/\(∀b,b∈z''->b.path.length<=10)/\z''.length+(o'.map Pattern.wt).sum<=S:=fun z' q hq hz' hs'=>
   ih (j+1) z' (o++[q]) (by omega) (by omega) (by simp;omega) (fun k h h'=>by
    by_cases e:k<o.length
    ·rw[List.getElem_append_left e];exact hc k e h'
    ·have:k=a+j:=by simp at h;omega
     subst this
     rw[List.getElem_append_right (by omega)]
     simpa[ho]using hq) hz' (by simp;omega)
  split
  ·next h4=>
   have hkl:=hx h4
   have hrem:ZJa x j=(1+x.kids[j].wt)+ZJa x (j+1):=by
    unfold ZJa
    rw[if_pos h4,if_pos h4,List.drop_eq_getElem_cons (by omega:j<x.kids.length),List.map_cons,List.sum_cons]
   rw[ZG (by omega) (by omega),show((a+j:Nat):Int) - (a:Int)=(j:Int)from by omega,ZAD (by omega:j<x.kids.length)]
   simp only[oS]
   rw[ZAD hva]
   simp only[oS]
   obtain⟨z',q,e2,c1,c2,_,c4⟩:=P.Ys (w:=w) (t:=v[a+j].f1) (k:=v[a+j].f0.length) ⟨f0,o,z⟩ v[a+j].f0 (Nat.le_refl _) (hvp _ hva) x.kids[j] (.inr (hk h4 j (by omega) hva)) (by show z.length+1+_<=_;omega) hz
   rw[e2]
   simp only[oS]
   rw[if_pos (ol o (by omega))]
   exact next z' q c1 c4 (by show _;simp only at c2;omega)
  ·next h4=>
   have hrem:ZJa x j=ZJa x (j+1):=by unfold ZJa;rw[if_neg h4,if_neg h4]
   rw[ZAD hva]
   simp only[oS]
   obtain⟨z',q,e2,c1,_,c3,c4⟩:=P.Ys (w:=w) (t:=v[a+j].f1) (k:=v[a+j].f0.length) ⟨f0,o,z⟩ v[a+j].f0 (Nat.le_refl _) (hvp _ hva) anyP0 (.inl rfl) (by rw[ZGy];show z.length+1+_<=_;omega) hz
   rw[e2]
   simp only[oS]
   rw[if_pos (ol o (by omega))]
   have c3:=c3 rfl
   exact next z' q c1 c4 (by simp only at c3;omega)
theorem P.YA0 (p:Pattern)(b:Branch):∃v,F.f141 p b=some v/\(v=true->p.op=1∨p.op=3∨p.ctor=b.ctor):=by
 unfold F.f141
 split
 ·next h=>exact⟨_,rfl,fun _=>.inl h⟩
 ·split
  ·next h=>
   split
   ·exact⟨_,rfl,fun _=>.inr (.inl h)⟩
   ·exact⟨_,rfl,fun _=>.inr (.inl h)⟩
  ·exact⟨_,rfl,fun h=>.inr (.inr (of_decide_eq_true h))⟩
theorem ZDD {w:List Data}{cols:List ZB}{a:Nat}(ha:a<cols.length)(b:Branch):(ZX w cols a cols[a] b).length=a+(Zn w cols[a] b).length+(cols.length- (a+1)):=by
 simp[ZX,Zg];omega
theorem ZHZ {w:List Data}{cols:List ZB}{a:Nat}(ha:a<cols.length)(b:Branch){k:Nat}(hk:k<a)(h:k<(ZX w cols a cols[a] b).length):(ZX w cols a cols[a] b)[k]=cols[k]:=by
 revert h;unfold ZX;intro h
 rw[List.getElem_append_left (by simp[Zg];omega),List.getElem_append_left (by simp;omega),List.getElem_take]
theorem ZFx {w:List Data}{cols:List ZB}{a:Nat}(ha:a<cols.length)(b:Branch){j:Nat}(hj:j<(Zn w cols[a] b).length)(h:a+j<(ZX w cols a cols[a] b).length):(ZX w cols a cols[a] b)[a+j]=⟨cols[a].f0++[(j:Int)],(Zn w cols[a] b)[j]⟩:=by
 revert h;unfold ZX;intro h
 rw[List.getElem_append_left (by simp[Zg];omega),List.getElem_append_right (by simp;omega)]
 have e:a+j- (cols.take a).length=j:=by simp;omega
 simp only[e]
 rw[ZBB _ _ _ _ _ hj]
 simp
theorem ZHa {w:List Data}{cols:List ZB}{a:Nat}(ha:a<cols.length)(b:Branch){j:Nat}(hj:a+1+j<cols.length)(h:a+(Zn w cols[a] b).length+j<(ZX w cols a cols[a] b).length):(ZX w cols a cols[a] b)[a+(Zn w cols[a] b).length+j]=cols[a+1+j]:=by
 revert h;unfold ZX;intro h
 rw[List.getElem_append_right (by simp[Zg];omega)]
 have e:a+(Zn w cols[a] b).length+j- (cols.take a++Zi cols[a].f0 0 (Zn w cols[a] b)).length=j:=by simp[Zg];omega
 simp only[e]
 rw[List.getElem_drop]
theorem ZDn {w:List Data}(hw:ZT w){cols:List ZB}{B:Nat}(hc:ColsOk w cols B){a:Nat}(ha:a<cols.length)(h9:cols[a].f0.length<=9){b:Branch}(hb:ZFS w cols[a].f1 b):ColsOk w (ZX w cols a cols[a] b) (B+3):=by
 have hn:=ZCJ hw (hc.ty _ (gM ha)) hb
 have hl:=hc.len
 have mem:∀c,c∈ZX w cols a cols[a] b->c∈cols∨∃j,∃h:j<(Zn w cols[a] b).length,c=⟨cols[a].f0++[(j:Int)],(Zn w cols[a] b)[j]⟩:=by
  intro c h
  unfold ZX at h
  rcases List.mem_append.1 h with h|h
  ·rcases List.mem_append.1 h with h|h
   ·exact .inl (List.mem_of_mem_take h)
   ·obtain⟨j,hj,rfl⟩:=List.getElem_of_mem h
    have hj2:j<(Zn w cols[a] b).length:=by rw[Zg]at hj;exact hj
    refine .inr ⟨j,hj2,?_⟩
    rw[ZBB _ _ _ _ _ hj2]
    simp
  ·exact .inl (List.mem_of_mem_drop h)
 refine⟨by rw[ZDD ha];omega,fun c h=> ?_,fun c h=> ?_⟩
 ·rcases mem c h with h|⟨j,hj,rfl⟩
  ·exact hc.ty c h
  ·exact hn.2 _ (gM hj)
 ·rcases mem c h with h|⟨j,hj,rfl⟩
  ·exact hc.path c h
  ·simp;omega
theorem P.YAq {w:List Data}(hw:ZT w){cols:List ZB}{B:Nat}(hc:ColsOk w cols B)(hB:B<=100000){a:Nat}(ha:a<cols.length)(h9:cols[a].f0.length<=9){b:Branch}(hb:ZFS w cols[a].f1 b){n:Nat}{x:ZA}(hx:RowOk w cols n 60 x)(hxa:a<x.f1.length)
  (fit:x.f1[a].op=1∨x.f1[a].op=3∨x.f1[a].ctor=b.ctor) (rows:List ZA) (out:List ZA) (i:Nat):
  ∃z o,F.f142 cols rows (a:Int) b (ZX w cols a cols[a] b) out i x.f1[a] x.f0 x.f2 (x.f1.take a) (a:Int)=some (x.f0,z,o)/\o.length<=a+3/\RowOk w (ZX w cols a cols[a] b) n 60 ⟨x.f0,o++x.f1.drop (a+1),z⟩:=by
 have hlen:=hx.len
 have hcl:=hc.len
 have hn:=ZCJ hw (hc.ty _ (gM ha)) hb
 have hok:=ZDn hw hc ha h9 hb
 have hvl:=ZDD (w:=w) ha b
 have hpa:=hx.pat a hxa ha
 have hsum:(x.f1.map Pattern.wt).sum=((x.f1.take a).map Pattern.wt).sum+x.f1[a].wt+((x.f1.drop (a+1)).map Pattern.wt).sum:=by
  have e0:x.f1=x.f1.take a++x.f1[a]::x.f1.drop (a+1):=by rw[←List.drop_eq_getElem_cons hxa,List.take_append_drop]
  have e1:=congrArg (fun l=>(l.map Pattern.wt).sum) e0
  simp only[List.map_append,List.map_cons,List.sum_append,List.sum_cons]at e1
  omega
 have hwt:=hx.wt
 have op4:x.f1[a].op=4->ZFP w (10-cols[a].f0.length) cols[a].f1 x.f1[a]:=fun h4=>by
  rcases hpa with e|⟨e,_⟩
  ·rw[e]at h4;cases h4
  ·exact e
 have ty4:x.f1[a].op=4->ZL w cols[a].f1 x.f1[a]=Zn w cols[a] b:=fun h4=>by
  have hct:x.f1[a].ctor=b.ctor:=by
   rcases fit with f|f|f
   ·omega
   ·omega
   ·exact f
  rcases ZJp (op4 h4)with h|h|⟨h,_⟩|⟨_,h⟩|h
  ·omega
  ·omega
  ·omega
  ·have:=(ZZ h).2.1
   unfold ZL Zn
   rw[if_pos h4,hct,if_neg (by omega)]
  ·omega
 have hrem:ZJa x.f1[a] 0<=x.f1[a].wt:=by
  have key:∀l:List Pattern,(l.map fun k=>1+k.wt).sum=wtL Pattern.wt l:=by
   intro l
   induction l with
   |nil=>rfl
   |cons a r ih=>simp[ih]
  unfold ZJa
  split
  ·rw[List.drop_zero,key,←Pattern.wt_eq];exact Nat.le_refl _
  ·exact Nat.zero_le _
 obtain⟨z,o,e,o1,o2,o3,o4⟩:=P.YBB (w:=w) cols rows (nl:=(Zn w cols[a] b).length) (S:=x.f2.length+((x.f1.take a).map Pattern.wt).sum+x.f1[a].wt) ha (by omega) hn.1 b (ZX w cols a cols[a] b) hvl out i x.f1[a] x.f0 (by omega)
  (fun k h=>hok.path _ (gM h))
  (fun h4=>by
   have:=op4 h4
   have h3:=ty4 h4
   revert this
   cases hd:10-cols[a].f0.length with
   |zero=>intro h;exact h.elim
   |succ d=>intro h;rw[h.2.2.1,h3])
  (fun h4 j hj hv=>by
   have:=op4 h4
   have h3:=ty4 h4
   have hd:10-cols[a].f0.length=(9-cols[a].f0.length)+1:=by omega
   rw[hd]at this
   have hk:=this.2.2.1
   have hj2:j<(Zn w cols[a] b).length:=by rw[←h3];omega
   have hs:=this.2.2.2 j (by omega) hj
   simp only[h3]at hs
   rw[ZFx ha b hj2]
   have h10:10- (cols[a].f0++[(j:Int)]).length=9-cols[a].f0.length:=by simp only[List.length_append,List.length_singleton];omega
   simp only[h10]
   exact hs)
  _ 0 x.f2 (x.f1.take a) rfl (Nat.zero_le _) (by simp;omega)
  (fun k h h'=>by
   have hka:k<a:=by simp at h;omega
   rw[ZHZ ha b hka,List.getElem_take]
   exact hx.pat k (by omega) (by omega))
  hx.path (by omega)
 refine⟨z,o,e,by have:=hn.1;omega,⟨hx.lo,hx.hi,?_,fun k h h'=> ?_,?_,o3⟩⟩
 ·show(o++x.f1.drop (a+1)).length=_
  rw[hvl,List.length_append,List.length_drop,o1];omega
 ·show ZLB w _ _ (o++x.f1.drop (a+1))[k]
  by_cases hk:k<o.length
  ·rw[List.getElem_append_left hk];exact o2 k hk h'
  ·obtain⟨j,rfl⟩:∃j,k=a+(Zn w cols[a] b).length+j:=⟨k- (a+(Zn w cols[a] b).length),by omega⟩
   have hj:a+1+j<cols.length:=by omega
   rw[ZHa ha b hj,List.getElem_append_right (by omega),List.getElem_drop]
   have e2:a+1+(a+(Zn w cols[a] b).length+j-o.length)=a+1+j:=by omega
   simp only[e2]
   exact hx.pat (a+1+j) (by omega) hj
 ·show z.length+((o++x.f1.drop (a+1)).map Pattern.wt).sum<=60
  rw[List.map_append,List.sum_append];omega
theorem P.YBC {w:List Data}(hw:ZT w){cols:List ZB}{B:Nat}(hc:ColsOk w cols B)(hB:B<=100000){a:Nat}(ha:a<cols.length)(h9:cols[a].f0.length<=9){b:Branch}(hb:ZFS w cols[a].f1 b){n:Nat}{rows:List ZA}(hr:∀r,r∈rows->RowOk w cols n 60 r)(hrl:rows.length<=4000):
  ∀(m i:Nat) (out:List ZA),rows.length-i=m->out.length<=i->i<=rows.length->(∀r,r∈out->RowOk w (ZX w cols a cols[a] b) n 60 r)->
  ∃l,F.f143 cols rows (a:Int) b (ZX w cols a cols[a] b) out i=some l/\l.length<=rows.length/\∀r,r∈l->RowOk w (ZX w cols a cols[a] b) n 60 r:=by
 intro m
 induction m with
 |zero=>
  intro i out hm ho hi hq
  rw[F.f143.eq_def,if_neg (by omega)]
  exact⟨out,rfl,by omega,hq⟩
 |succ m ih=>
  intro i out hm ho hi hq
  have hil:i<rows.length:=by omega
  have hx:=hr _ (gM hil)
  have hlen:=hx.len
  have hcl:=hc.len
  have hxa:a<rows[i].f1.length:=by omega
  obtain⟨v8,e8,fit⟩:=P.YA0 rows[i].f1[a] b
  rw[F.f143.eq_def,if_pos hil,gQ hil]
  simp only[oE,oS]
  rw[ZAD hxa]
  simp only[oS]
  rw[e8]
  simp only[oS]
  by_cases h8:v8=true
  ·obtain⟨z,o,e,ho3,hrow⟩:=P.YAq hw hc hB ha h9 hb hx hxa (fit h8) rows out i
   have hw1:i64.wrap ((a:Int)+1)=((a+1:Nat):Int):=by rw[ZG (by omega) (by omega)];omega
   rw[if_pos h8,hw1]
   simp only[Int.toNat_natCast,List.drop_zero,Nat.sub_zero]
   have hdrop:(rows[i].f1.drop (a+1)).take (rows[i].f1.length- (a+1))=rows[i].f1.drop (a+1):=List.take_of_length_le (by simp)
   rw[if_pos (by omega),if_pos (by simp;omega),e]
   simp only[oS]
   rw[hdrop,if_pos (by omega),if_pos (by simp;omega),if_pos (by omega),if_pos (by omega)]
   refine ih (i+1) _ (by omega) (by simp;omega) (by omega) fun r h=> ?_
   rcases List.mem_append.1 h with h|h
   ·exact hq r h
   ·rw[List.mem_singleton.1 h];exact hrow
  ·rw[if_neg h8]
   exact ih (i+1) out (by omega) (by omega) (by omega) hq
theorem P.YAz {w:List Data}(hw:ZT w){cols:List ZB}{B:Nat}(hc:ColsOk w cols B)(hB:B<=100000){a:Nat}(ha:a<cols.length)(h9:cols[a].f0.length<=9){b:Branch}(hb:ZFS w cols[a].f1 b){n:Nat}{rows:List ZA}(hr:∀r,r∈rows->RowOk w cols n 60 r)(hrl:rows.length<=4000):
  ∃l,F.f144 w cols rows (a:Int) b=some l/\l.length<=rows.length/\∀r,r∈l->RowOk w (ZX w cols a cols[a] b) n 60 r:=by
 obtain⟨l,e,h⟩:=P.YBC hw hc hB ha h9 hb hr hrl _ 0 [] rfl (by simp) (by omega) (by simp)
 unfold F.f144
 rw[P.Yz hw hc hB ha hb]
 simp only[oE,oS]
 rw[e]
 exact⟨l,rfl,h⟩
theorem ZGv :∀(l:List PathBind),(∀b,b∈l->b.path.length<=10)->wtL PathBind.wt l<=11*l.length
 | [],_=>Nat.le_refl _
 |x::l,h=>by
  have h1:=ZGv l fun b hb=>h b (List.mem_cons_of_mem _ hb)
  have h2:=h x (by simp)
  have hz:∀l:List Int,(l.map fun _=>0).sum=0:=by
   intro l
   induction l with
   |nil=>rfl
   |cons a r ih=>rw[List.map_cons,List.sum_cons,ih]
  have h3:PathBind.wt x=x.path.length:=by unfold PathBind.wt wtL;rw[hz];rfl
  rw[ZCr,List.length_cons]
  omega
theorem CompOk.more {w:List Data}{n:Nat}{cols:List ZB}{rows:List ZA}{B C:Nat}(h:CompOk w n cols rows B)(hB:B<=C):CompOk w n cols rows C:=⟨⟨Nat.le_trans h.okC.len hB,h.okC.ty,h.okC.path⟩,h.okR,h.few⟩
theorem ZJd {α:Type}(f:α->Nat)(l:List α)(x:α):wtL f (l++[x])=wtL f l+(1+f x):=by simp[wtL];omega
theorem ZAy :Tree.wt ⟨0,0,[],[],[],[]⟩=0:=by rw[Tree.wt_eq];rfl
theorem ZKE (c:Int)(b:List PathBind):Tree.wt ⟨1,c,b,[],[],[]⟩=wtL PathBind.wt b:=by rw[Tree.wt_eq];rfl
theorem ZI2 (c:Int)(b:List PathBind)(t:Tree):Tree.wt ⟨1,c,b,[],[],[t]⟩=wtL PathBind.wt b+1+t.wt:=by rw[Tree.wt_eq];simp;omega
theorem ZHD (p:List Int)(b:List Branch):Tree.wt ⟨2,0,[],p,b,[]⟩=p.length+wtL Branch.wt b:=by rw[Tree.wt_eq];simp[ZFU]
theorem ZJN {w:List Data}{k:Nat}{t:Ty}{p:Pattern}(h:ZLB w k t p)(ho:p.op≠1):k<=9:=by
 rcases h with rfl|⟨h,_⟩
 ·exact absurd rfl ho
 ·have:10-k≠0:=fun e=>by rw[e]at h;exact h.elim
  omega
def ZAI (c d:ZB):Prop:=¬c.f0<+:d.f0/\¬d.f0<+:c.f0
theorem ZBC {c d:ZB}(h:ZAI c d)(k:Int)(t:Ty):ZAI c ⟨d.f0++[k],t⟩:=by
 refine⟨fun h1=> ?_,fun h1=>h.2 ((List.prefix_append _ _).trans h1)⟩
 rcases List.prefix_concat_iff.1 h1 with e|e
 ·exact h.2 (by rw[e];exact List.prefix_append _ _)
 ·exact h.1 e
theorem ZAO {path:List Int}{c:ZB}:∀{ts:List Ty} {k:Nat},c∈Zi path k ts->∃j:Nat,∃t,k<=j/\c=⟨path++[(j:Int)],t⟩
 | [],k,h=>by cases h
 |t::r,k,h=>by
  rcases List.mem_cons.1 h with h|h
  ·exact⟨k,t,Nat.le_refl _,h⟩
  ·obtain⟨j,t',a,b⟩:=ZAO h
   exact⟨j,t',by omega,b⟩
theorem ZBT (path:List Int):∀(ts:List Ty) (k:Nat),(Zi path k ts).Pairwise ZAI
 | [],k=>.nil
 |t::r,k=>by
  refine .cons (fun c hc=> ?_) (ZBT path r (k+1))
  obtain⟨j,t',hj,rfl⟩:=ZAO hc
  have ne:path++[(k:Int)]≠path++[(j:Int)]:=fun e=>by
   have:=List.append_cancel_left e
   simp at this;omega
  exact⟨fun h=>ne (h.eq_of_length (by simp)),fun h=>ne (h.eq_of_length (by simp)).symm⟩
theorem ZEr {w:List Data}{cols:List ZB}(h:cols.Pairwise ZAI){a:Nat}(ha:a<cols.length)(b:Branch):(ZX w cols a cols[a] b).Pairwise ZAI/\∀c,c∈ZX w cols a cols[a] b->(∃d,d∈cols/\d.f0<+:c.f0)/\¬c.f0<+:cols[a].f0:=by
 have e:cols=cols.take a++cols[a]::cols.drop (a+1):=by rw[←List.drop_eq_getElem_cons ha,List.take_append_drop]
 have h':=h
 rw[e]at h'
 obtain⟨p1,p2,p3⟩:=List.pairwise_append.1 h'
 obtain⟨p4,p5⟩:=List.pairwise_cons.1 p2
 have ext:∀c d k (t:Ty),ZAI d c->ZAI ⟨c.f0++[k],t⟩ d:=fun c d k t h=>⟨(ZBC h k t).2,(ZBC h k t).1⟩
 refine⟨?_,fun c hc=> ?_⟩
 ·unfold ZX
  refine List.pairwise_append.2 ⟨List.pairwise_append.2 ⟨p1,ZBT _ _ _,fun c hc d hd=> ?_⟩,p5,fun c hc d hd=> ?_⟩
  ·obtain⟨j,t,_,rfl⟩:=ZAO hd
   exact ZBC (p3 c hc _ List.mem_cons_self) _ _
  ·rcases List.mem_append.1 hc with hc|hc
   ·exact p3 c hc d (List.mem_cons_of_mem _ hd)
   ·obtain⟨j,t,_,rfl⟩:=ZAO hc
    have:=p4 d hd
    exact ext _ _ _ _ ⟨this.2,this.1⟩
 ·unfold ZX at hc
  rcases List.mem_append.1 hc with hc|hc
  ·rcases List.mem_append.1 hc with hc|hc
   ·exact⟨⟨c,List.mem_of_mem_take hc,List.prefix_refl _⟩,(p3 c hc _ List.mem_cons_self).1⟩
   ·obtain⟨j,t,_,rfl⟩:=ZAO hc
    exact⟨⟨cols[a],gM ha,List.prefix_append _ _⟩,fun h=>by have:=h.length_le;simp at this;omega⟩
  ·exact⟨⟨c,List.mem_of_mem_drop hc,List.prefix_refl _⟩,(p4 c hc).2⟩
inductive TestedT :Tree->List Int->Prop
 |here (x:Tree) (h:x.op=2):TestedT x x.path
 |br (x:Tree) (b:Branch) (hb:b∈x.branches) (q:List Int) (h:TestedT b.tree q):TestedT x q
 |els (x y:Tree) (hy:y∈x.els) (q:List Int) (h:TestedT y q):TestedT x q
inductive OnceT :Tree->Prop
 |mk (x:Tree) (h1:x.op=2->(∀b,b∈x.branches->¬TestedT b.tree x.path)/\∀y,y∈x.els->¬TestedT y x.path) (h2:∀b,b∈x.branches->OnceT b.tree) (h3:∀y,y∈x.els->OnceT y):OnceT x
theorem ZBG {o c:Int}{bs:List PathBind}{p:List Int}{q:List Int}(ho:o≠2):¬TestedT ⟨o,c,bs,p,[],[]⟩ q:=by
 intro h
 cases h with
 |here _ h=>exact ho h
 |br _ b hb=>cases hb
 |els _ b hb=>cases hb
theorem ZAN {o c:Int}{bs:List PathBind}{p:List Int}(ho:o≠2):OnceT ⟨o,c,bs,p,[],[]⟩:=.mk _ (fun h=>absurd h ho) (fun b hb=>by cases hb) (fun b hb=>by cases hb)
def ZFc (t:Tree):Prop:=∀y,Sub y t->wtL PathBind.wt y.binds+y.path.length<=700
theorem ZAK {o c:Int}{bs:List PathBind}{p:List Int}(h:wtL PathBind.wt bs+p.length<=700):ZFc ⟨o,c,bs,p,[],[]⟩:=by
 intro y hy
 cases hy with
 |refl=>exact h
 |br _ b hb=>cases hb
 |els _ b hb=>cases hb
theorem P.YAw {w:List Data}{T:List Int}(h:TOk w T)(hT:F.f53 w=some T)(list:List Clause)(hll:list.length<=67108864)(pick:Int):
  ∀(N L:Nat) (cols:List ZB) (rows:List ZA),L<N->L<=300->CompOk w list.length cols rows (1+3*(300-L))->
   ∃(t:Tree) (L':Int),F.f145 w list pick cols rows (L:Int)=some (t,L')/\-1<=L'/\L'<L/\(t.wt:Int)+1<=1000*((L:Int) -L')/\(cols.Pairwise ZAI->OnceT t/\∀q,TestedT t q->∃c,c∈cols/\c.f0<+:q)/\ZFc t:=by
 intro N
 induction N with
 |zero=>intro L cols rows hN;omega
 |succ N ih=>
 intro L cols rows hN hL hc
 have hw1:i64.wrap ((L:Int) -1)=(L:Int) -1:=ZG (by omega) (by omega)
 rw[F.f145.eq_def,hw1]
 by_cases h0:(L:Int) -1<0
 ·rw[if_pos h0]
  exact⟨_,_,rfl,by omega,by omega,by rw[ZAy];omega,fun _=>⟨ZAN (by decide),fun q h=>absurd h (ZBG (by decide))⟩,ZAK (by simp)⟩
 rw[if_neg h0]
 by_cases hr0:rows.length=0
 ·rw[if_pos hr0]
  exact⟨_,_,rfl,by omega,by omega,by rw[ZAy];omega,fun _=>⟨ZAN (by decide),fun q h=>absurd h (ZBG (by decide))⟩,ZAK (by simp)⟩
 rw[if_neg hr0]
 have h0r:0<rows.length:=by omega
 have hx:=hc.okR _ (gM h0r)
 rw[gQ h0r]
 simp only[oE,oS]
 have hlen:=hx.len
 have hB:=hc.okC.len
 have hfew:=hc.few
 have hL1:(L:Int) -1=((L-1:Nat):Int):=by omega
 rcases P.YAj rows[0]with⟨e,ha⟩|⟨k,hk,e,ho⟩
 ·rw[e]
  simp only[oS]
  rw[if_pos (by decide)]
  have hwt:=hx.wt
  obtain⟨bs,e2,b1,b2⟩:=P.YAk rows[0].f2 (by omega) hx.path
  have b3:=ZGv bs b2
  rw[e2]
  simp only[oS]
  have hlo:=hx.lo
  have hhi:=hx.hi
  obtain⟨c,hcn⟩:∃c:Nat,rows[0].f0=(c:Int):=⟨rows[0].f0.toNat,by omega⟩
  have hcl:c<list.length:=by omega
  rw[hcn,ZAD hcl]
  simp only[oS]
  by_cases hg:list[c].guard.op=0
  ·rw[if_pos hg]
   exact⟨_,_,rfl,by omega,by omega,by rw[ZKE];omega,fun _=>⟨ZAN (by decide),fun q h=>absurd h (ZBG (by decide))⟩,ZAK (by simp;omega)⟩
  ·rw[if_neg hg]
   obtain⟨l,e3,l1,l2⟩:=P.YAi rows (c:Int) (by omega)
   rw[e3]
   simp only[oS]
   obtain⟨t,L',e4,t1,t2,t3,t4,t5⟩:=ih (L-1) cols l (by omega) (by omega) (CompOk.more ⟨hc.okC,fun r hr=>hc.okR r (l2 r hr),by omega⟩ (by omega))
   rw[hL1,e4]
   refine⟨_,_,rfl,by omega,by omega,by rw[ZI2];simp only;omega,fun hp=> ?_,fun y hy=> ?_⟩
   rotate_left
   ·cases hy with
    |refl=>show wtL PathBind.wt bs+0<=700;omega
    |br _ b hb=>cases hb
    |els _ z hz h=>rw[List.mem_singleton.1 hz]at h;exact t5 y h
   obtain⟨o1,o2⟩:=t4 hp
   refine⟨.mk _ (fun h=>absurd h (show(1:Int)≠2 by decide)) (fun b hb=>by cases hb) (fun y hy=>by rw[List.mem_singleton.1 hy];exact o1),fun q h=> ?_⟩
   cases h with
   |here _ h=>exact absurd h (show(1:Int)≠2 by decide)
   |br _ b hb=>cases hb
   |els _ y hy _ h=>rw[List.mem_singleton.1 hy]at h;exact o2 q h
 ·rw[e]
  simp only[oS]
  rw[if_neg (by omega)]
  obtain⟨a,e2,ha,hao⟩:=P.YAy h hT hc (by omega) h0r pick hk e ho
  rw[e2]
  simp only[oS]
  have hac:a<cols.length:=by omega
  have h9:cols[a].f0.length<=9:=ZJN (hx.pat a ha hac) hao
  have hty:=hc.okC.ty _ (gM hac)
  rw[ZAD hac]
  simp only[oS]
  rw[if_pos (by omega)]
  obtain⟨cs,e3,c1,c2⟩:=P.YAI h hT hty (by have:=ZBA h.wok (ZAJ hty.1);omega) rows a (fun r hr=>by rw[(hc.okR r hr).len];exact hac)
  rw[e3]
  simp only[oS]
  have loop:∀(m i:Nat) (out:List Branch) (K:Int),cs.length-i=m->out.length<=i->-1<=K->K<L->(wtL Branch.wt out:Int)<=1000*((L:Int) -1-K)->(cols.Pairwise ZAI->∀b,b∈out->OnceT b.tree/\¬TestedT b.tree cols[a].f0/\∀q,TestedT b.tree q->∃c,c∈cols/\c.f0<+:q)->(∀b,b∈out->ZFc b.tree)->
    ∃(l:List Branch) (K':Int),F.f146 w list pick cols rows (a:Int) cols[a] cs out i K=some (l,K')/\-1<=K'/\K'<L/\(wtL Branch.wt l:Int)<=1000*((L:Int) -1-K')/\(cols.Pairwise ZAI->∀b,b∈l->OnceT b.tree/\¬TestedT b.tree cols[a].f0/\∀q,TestedT b.tree q->∃c,c∈cols/\c.f0<+:q)/\∀b,b∈l->ZFc b.tree:=by
   intro m
   induction m with
   |zero=>
    intro i out K hm ho2 k1 k2 k3 k4 k5
    rw[F.f146.eq_def,if_neg (by omega)]
    exact⟨_,_,rfl,k1,k2,k3,k4,k5⟩
   |succ m ihm=>
    intro i out K hm ho2 k1 k2 k3 k4 k5
    have hi:i<cs.length:=by omega
    rw[F.f146.eq_def,if_pos hi]
    by_cases hK:0<=K
    ·rw[if_pos hK,gQ hi]
     simp only[oE,oS]
     have hb:=c2 _ (gM hi)
     rw[P.Yz h.wok hc.okC (by omega) hac hb]
     simp only[oS]
     obtain⟨l,e4,l1,l2⟩:=P.YAz h.wok hc.okC (by omega) hac h9 hb hc.okR (by omega)
     rw[e4]
     simp only[oS]
     obtain⟨kn,rfl⟩:∃kn:Nat,K=(kn:Int):=⟨K.toNat,by omega⟩
     have hno:=ZDn h.wok hc.okC hac h9 hb
     obtain⟨t,L',e5,t1,t2,t3,t4,t5⟩:=ih kn _ l (by omega) (by omega) (CompOk.more ⟨hno,l2,by omega⟩ (by omega))
     rw[e5]
     simp only[oS]
     rw[if_pos (by omega)]
     refine ihm (i+1) _ L' (by omega) (by simp;omega) t1 (by omega) ?_ (fun hp b hb2=> ?_) (fun b hb2=> ?_)
     rotate_left 2
     ·rcases List.mem_append.1 hb2 with hb2|hb2
      ·exact k5 b hb2
      ·rw[List.mem_singleton.1 hb2];exact t5
     rotate_left
     ·rcases List.mem_append.1 hb2 with hb2|hb2
      ·exact k4 hp b hb2
      ·rw[List.mem_singleton.1 hb2]
       obtain⟨n1,n2⟩:=ZEr (w:=w) hp hac cs[i]
       obtain⟨o1,o2⟩:=t4 n1
       refine⟨o1,fun h=> ?_,fun q h=> ?_⟩
       ·obtain⟨c,hc,hq⟩:=o2 _ h
        exact(n2 c hc).2 hq
       ·obtain⟨c,hc,hq⟩:=o2 _ h
        obtain⟨⟨d,hd,hd2⟩,_⟩:=n2 c hc
        exact⟨d,hd,hd2.trans hq⟩
     rw[ZJd]
     show((wtL Branch.wt out+(1+t.wt):Nat):Int)<=_
     omega
    ·rw[if_neg hK]
     exact⟨_,_,rfl,k1,k2,k3,k4,k5⟩
  obtain⟨l,K',e4,k1,k2,k3,k4,k5⟩:=loop _ 0 [] ((L:Int) -1) rfl (by simp) (by omega) (by omega) (by simp) (fun _ b hb=>by cases hb) (fun b hb=>by cases hb)
  rw[e4]
  refine⟨_,_,rfl,k1,k2,by rw[ZHD];simp only;omega,fun hp=>⟨.mk _ (fun _=>⟨fun b hb=>(k4 hp b hb).2.1,fun y hy=>by cases hy⟩) (fun b hb=>(k4 hp b hb).1) (fun y hy=>by cases hy),fun q h=> ?_⟩,fun y hy=> ?_⟩
  rotate_left
  ·cases hy with
   |refl=>show wtL PathBind.wt []+cols[a].f0.length<=700;rw[ZLF];omega
   |br _ b hb h=>exact k5 b hb y h
   |els _ z hz=>cases hz
  cases h with
  |here _ h=>exact⟨cols[a],gM hac,List.prefix_refl _⟩
  |br _ b hb _ h=>exact(k4 hp b hb).2.2 q h
  |els _ y hy=>cases hy
theorem P.YAt {w:List Data}{t:Ty}(list:List Clause){i:Nat}(hi:i<list.length)(hi2:list.length<=8)(v:List Pattern)(hv:∀q,q∈v->ZFP w 10 t q/\q.wt<=59):
  ∀(m k:Nat) (out:List ZA),v.length-k=m->out.length+m<=4000->(∀r,r∈out->RowOk w [⟨[],t⟩] list.length 60 r)->
   ∃l,F.f115 list i v out k=some l/\l.length=out.length+m/\∀r,r∈l->RowOk w [⟨[],t⟩] list.length 60 r
 |0,k,out,hm,ho,hr=>by rw[F.f115,if_neg (by omega)];exact⟨_,rfl,by omega,hr⟩
 |m+1,k,out,hm,ho,hr=>by
  have hk:k<v.length:=by omega
  obtain⟨s1,s2⟩:=hv _ (gM hk)
  obtain⟨z,q,e,c1,c2,_,c4⟩:=P.Ys (w:=w) (t:=t) (k:=0) ⟨(i:Int),[],[]⟩ [] (by simp) (by omega) v[k] (.inr s1) (by simp;omega) (by simp)
  rw[F.f115,if_pos hk,gQ hk]
  simp only[oE,oS]
  rw[e]
  simp only[oS]
  rw[if_pos (by omega)]
  obtain⟨l,e2,l1,l2⟩:=P.YAt list hi hi2 v hv m (k+1) (out++[⟨(i:Int),[q],z⟩]) (by omega) (by simp;omega) (fun r h=>by
   rcases List.mem_append.1 h with h|h
   ·exact hr r h
   ·rw[List.mem_singleton.1 h]
    refine⟨by simp,by simp;omega,rfl,fun j h h'=> ?_,by simp at c2 ⊢;omega,c4⟩
    have:j=0:=by simp at h;omega
    subst this
    exact c1)
  exact⟨l,e2,by simp at l1;omega,l2⟩
theorem P.YAu {w:List Data}{t:Ty}(list:List Clause)(hl:list.length<=8)(hp:∀c,c∈list->ZAR w 10 t c.pat/\c.pat.wt<=59):
  ∀(m i:Nat) (out:List ZA),list.length-i=m->out.length+m*401<=4000->(∀r,r∈out->RowOk w [⟨[],t⟩] list.length 60 r)->
   ∃l,F.f116 list out i=some l/\l.length<=out.length+m*401/\∀r,r∈l->RowOk w [⟨[],t⟩] list.length 60 r
 |0,i,out,hm,ho,hr=>by rw[F.f116,if_neg (by omega)];exact⟨_,rfl,by omega,hr⟩
 |m+1,i,out,hm,ho,hr=>by
  have hi:i<list.length:=by omega
  obtain⟨s1,s2⟩:=hp _ (gM hi)
  obtain⟨v,e,v1,v2⟩:=P.Yt w 10 t list[i].pat s1 (by omega)
  obtain⟨l,e2,l1,l2⟩:=P.YAt (w:=w) (t:=t) list hi hl v (fun q hq=>⟨(v2 q hq).1,by have:=(v2 q hq).2;omega⟩) _ 0 out rfl (by omega) hr
  rw[F.f116,if_pos hi,gQ hi]
  simp only[oE,oS]
  rw[e]
  simp only[oS]
  rw[e2]
  simp only[oS]
  rw[if_pos (by omega)]
  obtain⟨l',e3,q1,q2⟩:=P.YAu list hl hp m (i+1) l (by omega) (by omega) l2
  exact⟨l',e3,by omega,q2⟩
theorem P.YAC {w:List Data}{t:Ty}(list:List Clause)(pick:Int)(hp:∀c,c∈list->ZAR w 10 t c.pat/\c.pat.wt<=59):
  ∀(m i:Nat),list.length-i=m->F.f147 w t list pick i=some (.ret (⟨0,0,[],[],[],[]⟩,false))∨F.f147 w t list pick i=some (.go ())
 |0,i,hm=>by rw[F.f147,if_neg (by omega)];exact .inr rfl
 |m+1,i,hm=>by
  have hi:i<list.length:=by omega
  obtain⟨s1,s2⟩:=hp _ (gM hi)
  obtain⟨v,e,v1,v2⟩:=P.Yt w 10 t list[i].pat s1 (by omega)
  rw[F.f147,if_pos hi,gQ hi]
  simp only[oE,oS]
  rw[e]
  simp only[oS]
  split
  ·exact .inl rfl
  ·exact P.YAC list pick hp m (i+1) (by omega)
theorem P.YAT {w:List Data}{T:List Int}(h:TOk w T)(hT:F.f53 w=some T){t:Ty}(ht:ZY w t)(list:List Clause)(hl:list.length<=8)(hp:∀c,c∈list->ZAR w 10 t c.pat/\c.pat.wt<=59)(pick:Int):
  ∃x b,F.f148 w t list pick=some (x,b)/\x.wt+1<=301000/\OnceT x/\ZFc x:=by
 unfold F.f148
 rcases P.YAC (w:=w) (t:=t) list pick hp _ 0 rfl with e|e
 ·rw[e];exact⟨_,_,rfl,by rw[ZAy];omega,ZAN (by decide),ZAK (by simp)⟩
 ·rw[e]
  simp only[oE,oS]
  obtain⟨l,e2,l1,l2⟩:=P.YAu (w:=w) (t:=t) list hl hp _ 0 [] rfl (by simp;omega) (by simp)
  unfold F.f117
  rw[e2]
  simp only[oE,oS]
  obtain⟨x,L',e3,x1,x2,x3,x4,x5⟩:=P.YAw h hT list (by omega) pick 301 300 [⟨[],t⟩] l (by omega) (by omega) ⟨⟨by simp,fun c hc=>by rw[List.mem_singleton.1 hc];exact ht,fun c hc=>by rw[List.mem_singleton.1 hc];simp⟩,l2,by simp at l1;omega⟩
  have e3:F.f145 w list pick [⟨[],t⟩] l 300=some (x,L'):=e3
  rw[e3]
  simp only[oS]
  split
  ·exact⟨_,_,rfl,by rw[ZAy];omega,ZAN (by decide),ZAK (by simp)⟩
  ·exact⟨_,_,rfl,by omega,(x4 (List.pairwise_singleton _ _)).1,x5⟩
theorem P.Yj {w:List Data}(hw:ZA6 w){T:List Int}(h:TOk w T)(hT:F.f53 w=some T)(t:Ty)(list:List Clause)(hp:∀c,c∈list->c.pat.wt<=1048576)(pick:Int):
  ∃x b,F.f149 w t list pick=some (x,b)/\x.wt+1<=301000/\OnceT x/\ZFc x:=by
 unfold F.f149
 rw[P.YU w hw t list hp]
 simp only[oE,oS]
 by_cases hc:ZOo w t list
 ·rw[if_pos (ZJ hc)]
  split
  ·exact⟨_,_,rfl,by rw[ZAy];omega,ZAN (by decide),ZAK (by simp)⟩
  split
  ·exact⟨_,_,rfl,by rw[ZAy];omega,ZAN (by decide),ZAK (by simp)⟩
  ·obtain⟨x,b,e,hx⟩:=P.YAT h hT hc.1.2 list hc.2.1 (fun c h=>⟨(hc.2.2 c h).1.1,by have:=(hc.2.2 c h).1.2.2;omega⟩) pick
   rw[e]
   exact⟨_,_,rfl,hx⟩
 ·rw[if_neg (by rw[ZH hc];decide)]
  exact⟨_,_,rfl,by rw[ZAy];omega,ZAN (by decide),ZAK (by simp)⟩
theorem P.YAv {w:List Data}(hw:ZT w){t:Ty}(ht:ZY w t):∀(k K:Nat) (z:List Int) (z2:Int) (out:List Clause),k<=5->rok K ⟨z,z2⟩->K+k*21000<=1099511627776->out.length+k<=100->(∀c,c∈out->ZC8 w t c.pat)->
  ∃z' z2' l,F.f89 w t z z2 out (k:Int)=some (z',z2',l)/\rok (K+k*21000) ⟨z',z2'⟩/\l.length=out.length+k/\∀c,c∈l->ZC8 w t c.pat
 |0,K,z,z2,out,hk,hr,hK,ho,hp=>by
  rw[F.f89,if_neg (by omega)]
  exact⟨_,_,_,rfl,hr.mono (by omega),rfl,hp⟩
 |k+1,K,z,z2,out,hk,hr,hK,ho,hp=>by
  have hw1:i64.wrap (((k+1:Nat):Int) -1)=(k:Int):=by rw[ZG (by omega) (by omega)];omega
  obtain⟨c,r',e,h1,h2⟩:=P.YAY hw ht hr (by omega)
  rw[F.f89,if_pos (by omega),e,hw1]
  simp only[oE,oS]
  rw[if_pos (by omega)]
  obtain⟨z',z2',l,e2,q1,q2,q3⟩:=P.YAv hw ht k (K+21000) r'.f0 r'.f1 (out++[c]) (by omega) h1 (by omega) (by simp;omega) (fun x h=>by
   rcases List.mem_append.1 h with h|h
   ·exact hp x h
   ·rw[List.mem_singleton.1 h];exact h2)
  exact⟨z',z2',l,e2,q1.mono (by omega),by simp at q2;omega,q3⟩
theorem P.YA3 {w:List Data}(hw:ZT w){t:Ty}(ht:ZY w t){K:Nat}{r:ZD}(hr:rok K r)(hK:K+106000<=1099511627776):∃l r',F.f90 r w t=some (l,r')/\rok (K+106000) r'/\l.length<=5/\∀c,c∈l->ZC8 w t c.pat:=by
 unfold F.f90
 obtain⟨v,r1,e1,h1,hv⟩:=P.num hr (by omega) [3,2,4,5,1,0] (by simp)
 obtain⟨k,rfl,hk⟩:∃k:Nat,v=(k:Int)/\k<=5:=by
  simp at hv
  exact⟨v.toNat,by omega,by omega⟩
 obtain⟨z',z2',l,e2,q1,q2,q3⟩:=P.YAv hw ht k _ r1.f0 r1.f1 [] hk h1 (by omega) (by simp;omega) (by simp)
 rw[e1]
 simp only[oE,oS]
 rw[e2]
 exact⟨_,_,rfl,q1.mono (by omega),by simp at q2;simp only;omega,q3⟩
theorem P.Yf (v:Int×ZD):∀(k:Nat) (out:List Clause),out.length+k=9->(∀c,c∈out->c.pat.wt<=1000010)->∃l,F.f94 v out=some l/\l.length=9/\∀c,c∈l->c.pat.wt<=1000010
 |0,out,h,hp=>by rw[F.f94,if_neg (by omega)];exact⟨_,rfl,by omega,hp⟩
 |k+1,out,h,hp=>by
  rw[F.f94,if_pos (by omega),if_pos (by omega)]
  exact P.Yf v k (out++[⟨⟨1,0,0,0,0,[]⟩,⟨0,0,0⟩⟩]) (by simp;omega) (fun c hc=>by
   rcases List.mem_append.1 hc with hc|hc
   ·exact hp c hc
   ·rw[List.mem_singleton.1 hc];simp only;rw[ZBQ];omega)
theorem P.Yg {K:Nat}{r:ZD}(hr:rok K r)(hK:K+5<=1099511627776)(l:List Clause)(hl:l.length<=8)(hp:∀c,c∈l->c.pat.wt<=1000000):∃l' r',F.f95 r l=some (l',r')/\rok (K+5) r'/\l'.length<=9/\∀c,c∈l'->c.pat.wt<=1000010:=by
 have hp':∀c,c∈l->c.pat.wt<=1000010:=fun c h=>by have:=hp c h;omega
 have setOk:∀x:Clause,x.pat.wt<=1000010->∀c,c∈l.set 0 x->c.pat.wt<=1000010:=fun x hx c hc=>by
  rcases List.mem_or_eq_of_mem_set hc with h|h
  ·exact hp' c h
  ·rw[h];exact hx
 unfold F.f95
 rw[if_pos (by omega)]
 obtain⟨v,r1,e1,h1,_⟩:=P.YF hr (by omega) 24
 rw[e1]
 simp only[oE,oS]
 split
 ·split
  ·next h0=>
   obtain⟨v2,r2,e2,h2,_⟩:=P.num h1 (by omega) [1,2,3,-1] (by simp)
   obtain⟨v3,r3,e3,h3,_⟩:=P.num h2 (by omega) [0,5,9] (by simp)
   obtain⟨v4,r4,e4,h4,_⟩:=P.num h3 (by omega) [3,10,-1] (by simp)
   rw[e2]
   simp only[oS]
   rw[e3]
   simp only[oS]
   rw[e4]
   simp only[oS]
   rw[gQ h0]
   exact⟨_,_,rfl,h4.mono (by omega),by simp;omega,setOk _ (by simpa using hp' _ (gM h0))⟩
  ·exact⟨_,_,rfl,h1.mono (by omega),by omega,hp'⟩
 split
 ·split
  ·next h0=>
   have hx:=hp _ (gM h0)
   obtain⟨p2,r2,e2,h2,w2⟩:=P.YAA h1 (by omega) l[0].pat (by omega)
   obtain⟨p3,r3,e3,h3,w3⟩:=P.YAA h2 (by omega) p2 (by omega)
   rw[gQ h0]
   simp only[oS]
   rw[e2]
   simp only[oS]
   rw[e3]
   exact⟨_,_,rfl,h3.mono (by omega),by simp;omega,setOk _ (by show p3.wt<=_;omega)⟩
  ·exact⟨_,_,rfl,h1.mono (by omega),by omega,hp'⟩
 split
 ·obtain⟨l',e2,q1,q2⟩:=P.Yf (v,r1) (9-l.length) l (by omega) hp'
  rw[e2]
  exact⟨_,_,rfl,h1.mono (by omega),by omega,q2⟩
 ·exact⟨_,_,rfl,h1.mono (by omega),by omega,hp'⟩
theorem P.YAm {K:Nat}{r:ZD}(hr:rok K r)(hK:K+107000<=1099511627776):∃w t l v r' T,F.f91 r=some (w,t,l,v,r')/\rok (K+107000) r'/\w∈ZAE/\F.f53 w=some T/\TOk w T/\ZY w t/\l.length<=5/\(∀c,c∈l->ZC8 w t c.pat)/\pv w false 4 t v/\v.wt+1<=256:=by
 obtain⟨w,t,v,r1,T,e1,h1,hw,hT',hT,a1,a2,a3,_,hv,hvw,a4⟩:=P.YAb hr (by omega)
 have ht:ZY w t:=by
  refine⟨?_,a3⟩
  rcases a1 with q|⟨q1,q2,q3,q4⟩
  ·exact .inl ⟨q,a4 q⟩
  ·exact .inr ⟨q1,q2,by omega,q4⟩
 obtain⟨l,r2,e2,h2,l1,l2⟩:=P.YA3 hT.wok ht h1 (by omega)
 unfold F.f91
 rw[e1]
 simp only[oE,oS]
 rw[e2]
 exact⟨w,t,l,v,r2,T,rfl,h2.mono (by omega),hw,hT',hT,ht,l1,l2,hv,hvw⟩
theorem P.YO (code:List Int)(hc:ZAm code):∃w t l T,F.f96 code=some (w,t,l)/\w∈ZAE/\F.f53 w=some T/\TOk w T/\ZY w t/\l.length<=9/\∀c,c∈l->c.pat.wt<=1000010:=by
 have key:∀r,rok 0 r->∃w t l T,((F.f91 r)>>=fun v=>
   if 0<v.2.2.1.length then
    (F.f1 v.2.2.2.2 4)>>=fun v9=>
    if v9.1=0 then
     (F.f92)>>=fun v13=>
     if v.2.2.1.length+1<=67108864 then
      (F.f95 v9.2 (v.2.2.1++[(⟨v13,(⟨0,0,0⟩:Guard)⟩:Clause)]))>>=fun v16=>
      some (v.1,v.2.1,v16.1)
     else none
    else
     (F.f95 v9.2 v.2.2.1)>>=fun v18=>
     some (v.1,v.2.1,v18.1)
   else
    (F.f95 v.2.2.2.2 v.2.2.1)>>=fun v20=>
    some (v.1,v.2.1,v20.1))=some (w,t,l)/\w∈ZAE/\F.f53 w=some T/\TOk w T/\ZY w t/\l.length<=9/\∀c,c∈l->c.pat.wt<=1000010:=by
  intro r hr
  obtain⟨w,t,l,v,r1,T,e1,h1,hw,hT',hT,ht,l1,l2,_⟩:=P.YAm hr (by omega)
  have hlw:∀c,c∈l->c.pat.wt<=1000000:=fun c h=>by have:=(l2 c h).2.2;omega
  rw[e1]
  simp only[oE,oS]
  split
  ·obtain⟨v9,r2,e2,h2,_⟩:=P.YF h1 (by omega) 4
   rw[e2]
   simp only[oS]
   split
   ·rw[P.YAN]
    simp only[oS]
    rw[if_pos (by omega)]
    obtain⟨l',r3,e3,_,q1,q2⟩:=P.Yg h2 (by omega) (l++[⟨anyP0,⟨0,0,0⟩⟩]) (by simp;omega) (fun c h=>by
     rcases List.mem_append.1 h with h|h
     ·exact hlw c h
     ·rw[List.mem_singleton.1 h];simp only;rw[ZGy];omega)
    rw[e3]
    exact⟨_,_,_,T,rfl,hw,hT',hT,ht,q1,q2⟩
   ·obtain⟨l',r3,e3,_,q1,q2⟩:=P.Yg h2 (by omega) l (by omega) hlw
    rw[e3]
    exact⟨_,_,_,T,rfl,hw,hT',hT,ht,q1,q2⟩
  ·obtain⟨l',r3,e3,_,q1,q2⟩:=P.Yg h1 (by omega) l (by omega) hlw
   rw[e3]
   exact⟨_,_,_,T,rfl,hw,hT',hT,ht,q1,q2⟩
 unfold F.f96
 split
 ·rw[if_pos (by omega)];exact key _ (ZEC hc)
 ·exact key _ (ZCt hc (by omega))
theorem P.YN (code:List Int)(hc:ZAm code):∃w t l T,F.f97 code=some (w,t,l)/\w∈ZAE/\F.f53 w=some T/\TOk w T/\ZY w t/\l.length<=9/\∀c,c∈l->c.pat.wt<=1000010:=by
 obtain⟨w,t,l,T,e,hw,hT',hT,ht,l1,l2⟩:=P.YO code hc
 have key:∀r,rok 0 r->∃l',(if 0<l.length then
   if l.length<8 then
    (F.f1 r 2)>>=fun v12=>
    if v12.1=0 then
     (F.f1 v12.2 (l.length:Int))>>=fun v16=>
     (at? l v16.1)>>=fun x=>
     if l.length+1<=67108864 then
      some (w,t,l++[x])
     else none
    else
     some (w,t,l)
   else
    some (w,t,l)
  else
   some (w,t,l))=some (w,t,l')/\l'.length<=9/\∀c,c∈l'->c.pat.wt<=1000010:=by
  intro r hr
  split
  ·next h0=>
   split
   ·obtain⟨v12,r2,e2,h2,_⟩:=P.YF hr (by omega) 2
    rw[e2]
    simp only[oE,oS]
    split
    ·obtain⟨v16,r3,e3,h3,a1,a2,_⟩:=P.YF h2 (by omega) (l.length:Int)
     have a3:=a2 (by omega)
     obtain⟨k,rfl⟩:∃k:Nat,v16=(k:Int):=⟨v16.toNat,by omega⟩
     have hk:k<l.length:=by omega
     rw[e3]
     simp only[oS]
     rw[ZAD hk]
     simp only[oS]
     rw[if_pos (by omega)]
     refine⟨_,rfl,by simp;omega,fun c h=> ?_⟩
     rcases List.mem_append.1 h with h|h
     ·exact l2 c h
     ·rw[List.mem_singleton.1 h];exact l2 _ (gM hk)
    ·exact⟨_,rfl,l1,l2⟩
   ·exact⟨_,rfl,l1,l2⟩
  ·exact⟨_,rfl,l1,l2⟩
 unfold F.f97
 rw[e]
 simp only[oE,oS]
 split
 ·rw[if_pos (by omega)]
  obtain⟨l',e2,q⟩:=key _ (ZEC hc)
  exact⟨w,t,l',T,e2,hw,hT',hT,ht,q⟩
 ·obtain⟨l',e2,q⟩:=key _ (ZCt hc (by omega))
  exact⟨w,t,l',T,e2,hw,hT',hT,ht,q⟩
theorem P.YAp (code:List Int)(hc:ZAm code):∃r,F.f98 code=some r/\rok 0 r:=by
 unfold F.f98
 split
 ·rw[if_pos (by omega)];exact⟨_,rfl,ZEC hc⟩
 ·exact⟨_,rfl,ZCt hc (by omega)⟩
theorem P.YA1 (code:List Int)(hc:ZAm code):∃w t l k T,F.f99 code=some (w,t,l,k)/\w∈ZAE/\F.f53 w=some T/\TOk w T/\ZY w t/\l.length<=9/\∀c,c∈l->c.pat.wt<=1000010:=by
 obtain⟨w,t,l,T,e,h⟩:=P.YN code hc
 obtain⟨r,e2,hr⟩:=P.YAp code hc
 obtain⟨v,r1,e3,h1,hv⟩:=P.num hr (by omega) [0,1,2,0,1,2,3,-1] (by simp)
 unfold F.f99
 rw[e]
 simp only[oE,oS]
 rw[e2]
 simp only[oS]
 rw[e3]
 exact⟨w,t,l,v,T,rfl,h⟩
theorem P.YAx (code:List Int)(hc:ZAm code):∃x,F.f150 code=some x/\x.wt+1<=301000/\OnceT x/\ZFc x:=by
 obtain⟨w,t,l,k,T,e,hw,hT',hT,ht,l1,l2⟩:=P.YA1 code hc
 obtain⟨x,b,e2,hx⟩:=P.Yj (ZCc hw) hT hT' t l (fun c h=>by have:=l2 c h;omega) k
 unfold F.f150
 rw[e]
 simp only[oE,oS]
 rw[e2]
 exact⟨x,rfl,hx⟩
theorem Sub.wt {y x:Tree}(h:Sub y x):y.wt<=x.wt:=by
 induction h with
 |refl=>exact Nat.le_refl _
 |br x b hb h ih=>have:=x.wt_eq;have:=ZAY Branch.wt hb;have:Branch.wt b=b.tree.wt:=rfl;omega
 |els x z hz h ih=>have:=x.wt_eq;have:=ZAY Tree.wt hz;omega
theorem Added.binds {x:Tree}{l:List Node}{k:Nat}(h:Added [] x l k)(hx:right x)(hw:x.wt<=1048576):∀n,n∈l->n.binds.length<=67108864:=by
 intro n hn
 obtain⟨j,hj,rfl⟩:=List.getElem_of_mem hn
 obtain⟨y,hy,hr⟩:=h.sub j (by simp) hj
 obtain⟨_,_,e,_⟩:=Rep.ok hr (hy.right hx)
 have h1:=hy.wt
 have h2:=ZAu PathBind.wt y.binds
 have h3:=y.wt_eq
 rw[e];omega
theorem P.YAh (code:List Int)(hc:ZAm code):∃l,F.f170 code=some l/\l.length<=301/\∀n,n∈l->n.wt<=710:=by
 obtain⟨x,e,hx,_,hsl⟩:=P.YAx code hc
 obtain⟨nodes,b,e2,hl,hn⟩:∃l b,F.f169 x=some (l,b)/\l.length<=300/\∀n,n∈l->n.wt<=710:=by
  rcases P.Yi x (by omega)with h|⟨h1,h2,l,k,e1,h3⟩
  ·exact⟨_,_,h,by simp,by simp⟩
  ·refine⟨l,true,e1,(Added.valid h3 h2 h1).2.1,fun n hn=> ?_⟩
   obtain⟨j,hj,rfl⟩:=List.getElem_of_mem hn
   obtain⟨y,hy,hr⟩:=h3.sub j (by simp) hj
   obtain⟨_,e0,e1,e2⟩:=Rep.ok hr (hy.right h2)
   have h1:=hsl y hy
   have h3:=ZFU y.path
   have h4:wtL Edge.wt l[j].edges=l[j].edges.length:=ZGY (fun _=>rfl) _
   have h5:l[j].edges.length<=10:=e0.len
   unfold Node.wt
   rw[e1,e2,h4]
   omega
 have key : ∀ r, rok 0 r -> ∃ l, (if nodes.length <= 67108864 then
    if nodes.length=0 then
     some nodes
    else
     (F.f1 r 3)>>=fun v12=>
     if 0<v12.1 then
      some nodes
     else
      (F.f1 v12.2 (nodes.length:Int))>>=fun v16=>
      (F.f1 v16.2 5)>>=fun v18=>
      if v18.1=0 then
       (F.f54 v18.2 [0,1,2,3,(-1)])>>=fun v22=>
       (at? nodes v16.1)>>=fun x=>
       some (nodes.set v16.1.toNat (⟨v22.1,x.clause,x.binds,x.path,x.edges,x.els⟩:Node))
      else
       if v18.1=1 then
        (F.f54 v18.2 [0,(-1),5,(-2)])>>=fun v27=>
        (at? nodes v16.1)>>=fun x29=>
        some (nodes.set v16.1.toNat (⟨x29.op,x29.clause,x29.binds,x29.path,x29.edges,v27.1⟩:Node))
       else
        if v18.1=2 then
         (at? nodes v16.1)>>=fun x33=>
         if 0<x33.edges.length then
          if x33.edges.length<=67108864 then
           (F.f54 v18.2 [0,1,9,(-1)])>>=fun v39=>
           (x33.edges[0]?)>>=fun x41=>
           some (nodes.set v16.1.toNat (⟨x33.op,x33.clause,x33.binds,x33.path,x33.edges.set 0 (⟨x41.ctor,x41.n,x41.m,v39.1⟩:Edge),x33.els⟩:Node))
          else none
         else
          some nodes
        else
         if v18.1=3 then
          if 0<=v16.1/\v16.1.toNat<=nodes.length then
           some (List.take v16.1.toNat nodes)
          else none
         else
          if v18.1=4 then
           (at? nodes v16.1)>>=fun x48=>
           if nodes.length+1<=67108864 then
            some (nodes++[x48])
           else none
          else
           some nodes
   else none)=some l/\l.length<=301/\∀n,n∈l->n.wt<=710:=by
  intro r hr
  have same:∀l:List Node,l=nodes->l.length<=301/\∀n,n∈l->n.wt<=710:=fun l e=>by subst e;exact⟨by omega,hn⟩
  have setOk:∀(i:Nat) (y:Node),y.wt<=710->(nodes.set i y).length<=301/\∀n,n∈nodes.set i y->n.wt<=710:=fun i y hy=>⟨by simp;omega,fun n h=>by
   rcases List.mem_or_eq_of_mem_set h with h|h
   ·exact hn n h
   ·rw[h];exact hy⟩
  rw[if_pos (by omega)]
  split
  ·exact⟨_,rfl,same _ rfl⟩
  obtain⟨v12,r1,e1,h1,_⟩:=P.YF hr (by omega) 3
  rw[e1]
  simp only[oE,oS]
  split
  ·exact⟨_,rfl,same _ rfl⟩
  obtain⟨v16,r2,e2,h2,a1,a2,_⟩:=P.YF h1 (by omega) (nodes.length:Int)
  have a3:=a2 (by omega)
  obtain⟨k,rfl⟩:∃k:Nat,v16=(k:Int):=⟨v16.toNat,by omega⟩
  have hk:k<nodes.length:=by omega
  have hkw:=hn _ (gM hk)
  rw[e2]
  simp only[oS]
  obtain⟨v18,r3,e3,h3,_⟩:=P.YF h2 (by omega) 5
  rw[e3]
  simp only[oS]
  split
  ·obtain⟨v22,r4,e4,h4,_⟩:=P.num h3 (by omega) [0,1,2,3,-1] (by simp)
   rw[e4]
   simp only[oS]
   rw[ZAD hk]
   exact⟨_,rfl,setOk _ _ hkw⟩
  split
  ·obtain⟨v22,r4,e4,h4,_⟩:=P.num h3 (by omega) [0,-1,5,-2] (by simp)
   rw[e4]
   simp only[oS]
   rw[ZAD hk]
   exact⟨_,rfl,setOk _ _ hkw⟩
  split
  ·rw[ZAD hk]
   simp only[oS]
   split
   ·next h0=>
    have h5:nodes[k].edges.length<=67108864:=by
     have:=ZAu Edge.wt nodes[k].edges
     unfold Node.wt at hkw
     omega
    rw[if_pos h5]
    obtain⟨v22,r4,e4,h4,_⟩:=P.num h3 (by omega) [0,1,9,-1] (by simp)
    rw[e4]
    simp only[oS]
    rw[gQ h0]
    refine⟨_,rfl,setOk _ _ ?_⟩
    have z:∀l:List Edge,wtL Edge.wt l=l.length:=fun l=>ZGY (fun _=>rfl) l
    unfold Node.wt at hkw ⊢
    rw[z]at hkw ⊢
    simp only[List.length_set]
    exact hkw
   ·exact⟨_,rfl,same _ rfl⟩
  split
  ·rw[if_pos (by omega)]
   exact⟨_,rfl,by simp;omega,fun n h=>hn n (List.mem_of_mem_take h)⟩
  split
  ·rw[ZAD hk]
   simp only[oS]
   rw[if_pos (by omega)]
   refine⟨_,rfl,by simp;omega,fun n h=> ?_⟩
   rcases List.mem_append.1 h with h|h
   ·exact hn n h
   ·rw[List.mem_singleton.1 h];exact hkw
  ·exact⟨_,rfl,same _ rfl⟩
 unfold F.f170
 by_cases hcl:2000<code.length
 ·rw[if_pos hcl,if_pos (by omega),e]
  show ∃l,((F.f169 x)>>=_)=some l/\_
  rw[e2]
  exact key _ (ZEC hc)
 ·rw[if_neg hcl,e]
  show ∃l,((F.f169 x)>>=_)=some l/\_
  rw[e2]
  exact key _ (ZCt hc (by omega))
theorem Rep.sub {list:List Node}{y x:Tree}(h:Sub y x):∀{k:Nat},Rep list k x->∃j,j<=k/\Rep list j y:=by
 induction h with
 |refl=>intro k hr;exact⟨k,Nat.le_refl _,hr⟩
 |br x b hb h ih=>
  intro k hr
  cases hr with
  |mk _ _ es e js j0 _ _ _ hj hr'=>
   obtain⟨i,hi,rfl⟩:=List.getElem_of_mem hb
   obtain⟨j,a,b⟩:=ih (hr' i hi)
   have:=hj i hi
   exact⟨j,by omega,b⟩
 |els x z hz h ih=>
  intro k hr
  cases hr with
  |mk _ _ es e js j0 _ _ _ _ _ _ _ h2 h3=>
   obtain⟨j,a,b⟩:=ih (h3 z hz)
   have:=(h2 z hz).2
   exact⟨j,by omega,b⟩
end Go.Vl
