import Derived.Test.YtodkbabdaoeooaaGreatDoorVlOpen
set_option linter.all false
open Array renaming getD_eq_getD_getElem?->zA,length_toList->zB
open List renaming mem_or_eq_of_mem_set->zC,getElem?_append_left->zD,eq_of_mem_replicate->zE,mem_append_right->zF,mem_append_left->zG,replicate->zH,getElem?_eq_some_iff->zI,mem_append->zJ,mem_map->zK,map->zL,getElem?_append_right->zM,getElem?_set_self->zN,getElem?_set_ne->zO
open ByteArray.toList renaming loop->zP
namespace Go.Vl
open Go Go.RowKit Go.ChangeShapes Go.WideShapes
open Go.DataW renaming TrodAll->zQ
def ZBl (P:Program)(t:TypeId)(x:AV):Prop:=
 match P.underlying t with
 |some (.struct _)=>∃n as,x=.agg as/\ZAf P n t as
 |_=>∃n,ZAf P n t [x]
def ZBb (P:Program):List TypeId->List AV->Prop
 | [],xs=>xs=[]
 |t::ts,xs=>∃x r,xs=x::r/\ZBl P t x/\ZBb P ts r
def ZO8 (P:Program)(L:List TypeId)(t:TypeId):Bool:=P.readableRec t&& decide (t<P.types.size)&& L.contains t&& match P.underlying t with
 |some .bool|some (.int _)|some .string|some (.slice _)|some (.pointer _)|some (.struct _)=>true
 |_=>false
section
variable {H : Type} {enc : TypeId × Value -> H} {P : Program}
theorem ZL5 {v:Value}{x:AV}{w:World}{as:List AV}(hv:v.cells=#[v])(h:Rl w as v.cells.toList)(has:as=[x]):Conc BIG (fun _=>False) w M0 x v:=by
 subst has
 rw[hv]at h
 simpa using h.2 0 x rfl
theorem ZL3 {L:List TypeId}(hty:tyB P L=true){w:World}{spare:Nat->Bool}{held:Bool}{t:TypeId}{v:Value}{d:DataW H}{ps:List MemPlace}{base:Nat}(ht:ZO8 P L t=true)
  (hval:Value.okWide P w .any base t v) (h:DataW.Trod enc P w 0 spare held t v d ps):∃x,Conc BIG (fun _=>False) w M0 x v/\ZBl P t x:=by
 obtain⟨fuel,h⟩:=h
 simp only[ZO8,Bool.and_eq_true,decide_eq_true_eq]at ht
 obtain⟨⟨⟨_,_⟩,hlt⟩,hk⟩:=ht
 obtain⟨as,hr,hta⟩:=ZFI hty fuel t _ _ hlt h
 have one:(hv:v.cells=#[v])->(∃x,as=[x])->(∀fs,P.underlying t≠some (.struct fs))->∃x,Conc BIG (fun _=>False) w M0 x v/\ZBl P t x:=by
  rintro hv ⟨x,rfl⟩ hns
  refine⟨x,ZL5 hv hr rfl,?_⟩
  unfold ZBl
  split
  ·next fs hu=>exact absurd hu (hns fs)
  ·exact⟨fuel,hta⟩
 have len1:∀hv:v.cells=#[v],∃x,as=[x]:=by
  intro hv
  have:=hr.1
  rw[hv]at this
  exact List.length_eq_one_iff.1 (by simpa using this)
 cases hu:P.underlying t with
 |none=>rw[hu]at hk;cases hk
 |some dsc=>
  cases dsc with
  |bool=>obtain⟨b,rfl⟩:=okWide_bool hu hval;exact one rfl (len1 rfl) (by simp[hu])
  |int k=>obtain⟨b,rfl⟩:=okWide_int hu hval;exact one rfl (len1 rfl) (by simp[hu])
  |string=>obtain⟨b,rfl⟩:=okWide_string hu hval;exact one rfl (len1 rfl) (by simp[hu])
  |slice e=>obtain⟨_,_,_,rfl⟩:=okWide_slice hu hval;exact one rfl (len1 rfl) (by simp[hu])
  |pointer e=>obtain⟨_,rfl⟩:=okWide_pointer hu hval;exact one rfl (len1 rfl) (by simp[hu])
  |struct fs=>
   obtain⟨cs,rfl,hsz⟩:=okWide_struct hu hval
   refine⟨.agg as,.agg as cs (by have:=hr.1;simpa[Value.cells]using this.symm) (fun i x hx=> ?_),?_⟩
   ·have:=hr.2 i x hx
    simpa[Value.cells,zA,List.getD_eq_getElem?_getD]using this
   ·unfold ZBl;rw[hu];exact⟨fuel,as,rfl,hta⟩
  |_=>rw[hu]at hk;cases hk
theorem ZFy {L:List TypeId}(hty:tyB P L=true){w:World}{spare:Nat->Bool}{held:Bool}{base:Nat}:∀(ts:List TypeId) (vs:List Value) (ds:List (DataW H)) (ps:List MemPlace),
  (∀t,t∈ts->ZO8 P L t=true)->(∀(j:Nat) t v,ts[j]? =some t->vs[j]? =some v->Value.okWide P w .any base t v)->zQ enc P w 0 spare held ts vs ds ps->
  ∃xs:List AV,vs.length=xs.length/\(∀(i:Nat) (x:AV),xs[i]? =some x->Conc BIG (fun _=>False) w M0 x (vs.getD i undef))/\ZBb P ts xs/\ds.length=ts.length
 | [],vs,ds,ps,_,_,h=>by
  cases vs<;>cases ds<;>simp[zQ]at h
  exact⟨[],rfl,fun i x hi=>by simp at hi,rfl,rfl⟩
 |t::ts,vs,ds,ps,ht,hval,h=>by
  cases vs with
  |nil=>simp[zQ]at h
  |cons v vs=>
   cases ds with
   |nil=>simp[zQ]at h
   |cons d ds=>
    simp only[zQ]at h
    obtain⟨p,q,h1,h2,_⟩:=h
    obtain⟨x,hx,htx⟩:=ZL3 hty (ht t (by simp)) (hval 0 t v rfl rfl) h1
    obtain⟨xs,hl,hc,hta,hdl⟩:=ZFy hty ts vs ds q (fun t h=>ht t (by simp[h])) (fun j t v h3 h4=>hval (j+1) t v (by simpa using h3) (by simpa using h4)) h2
    refine⟨x::xs,by simp[hl],fun i y hi=> ?_,⟨x,xs,rfl,htx,hta⟩,by simp[hdl]⟩
    cases i with
    |zero=>simp at hi;subst hi;exact hx
    |succ i=>exact hc i y (by simpa using hi)
theorem ZCh {L:List TypeId}(hl:laidOutB P=true){W W':World}(hb:Below W.heap.size W W'):∀{ts:List TypeId} {vs:List Value} {ds:List (DataW H)} {ps:List MemPlace},(∀t,t∈ts->ZO8 P L t=true)->
  zQ enc P W 0 (fun _=>true) true ts vs ds ps->(∀x,x∈ps->x.block<W.heap.size)->zQ enc P W' 0 (fun b=>decide (b<W.heap.size)) true ts vs ds ps
 | [],vs,ds,ps,_,h,_=>by
  cases vs<;>cases ds<;>simp[zQ]at h ⊢
  exact h
 |t::ts,vs,ds,ps,ht,h,hlt=>by
  cases vs with
  |nil=>simp[zQ]at h
  |cons v vs=>
   cases ds with
   |nil=>simp[zQ]at h
   |cons d ds=>
    simp only[zQ]at h ⊢
    obtain⟨p,q,h1,h2,rfl⟩:=h
    have hk:=ht t (by simp)
    simp only[ZO8,Bool.and_eq_true,decide_eq_true_eq]at hk
    exact⟨p,q,Below.trod hl hk.1.1.1 hk.1.1.2 h1 hb (fun x hx=>hlt x (by simp[hx])),ZCh hl hb (fun t h=>ht t (by simp[h])) h2 (fun x hx=>hlt x (by simp[hx])),rfl⟩
end
end Go.Vl
namespace Go.Vl
open Go Go.RowKit
def rem (l:Int)(n:Nat):Int:=if n<=l then l-n else -1
def ZSC {α:Type}(xs:List α)(k:Nat)(z:α):List α:=xs.take k++zH (xs.length-k) z
end Go.Vl
namespace Go.Vl
open Go Go.RowKit
open AV renaming pure->zR,closed->zS
theorem ZLK (a b:ByteArray):(a==b)=decide (a=b):=by
 obtain⟨a⟩:=a
 obtain⟨b⟩:=b
 show(a==b)=_
 by_cases h:a=b
 ·subst h;simp
 ·simp[h]
theorem ZGt (bs:ByteArray):∀(n i:Nat) (r:List UInt8),bs.size-i=n->zP bs i r=r.reverse++bs.data.toList.drop i:=by
 intro n
 induction n with
 |zero=>
  intro i r h
  unfold zP
  have:¬i<bs.size:=by omega
  rw[iN this,List.drop_eq_nil_of_le (by rw[zB];exact Nat.le_of_not_lt this)];simp
 |succ n ih=>
  intro i r h
  have hi:i<bs.size:=by omega
  unfold zP
  rw[iP hi,ih (i+1) _ (by omega)]
  have hi':i<bs.data.toList.length:=by rw[zB];exact hi
  rw[List.drop_eq_getElem_cons hi']
  have:bs.get! i=bs.data.toList[i]:=by
   cases bs with
   |mk d=>
    show d[i]! =_
    rw[getElem!_pos d i (by simpa using hi')];simp
  rw[this];simp
theorem ZFj (bs:ByteArray):bs.toList=bs.data.toList:=by
 unfold ByteArray.toList
 rw[ZGt bs _ 0 [] rfl];simp
theorem ZAx {a b:ByteArray}:a.toList=b.toList↔a=b:=by
 rw[ZFj,ZFj]
 constructor
 ·intro h
  obtain⟨⟨a⟩⟩:=a;obtain⟨⟨b⟩⟩:=b
  simp at h;subst h;rfl
 ·intro h;rw[h]
inductive Lo (R S:Type)
 |ret (r:R)
 |go (s:S)
def Lo.post {R S:Type}(o:Lo R S)(f:R->Prop)(g:S->Prop):Prop:=
 match o with
 | .ret r=>f r
 | .go s=>g s
abbrev LIM :Nat:=67108864
def at? {α:Type}(xs:List α)(i:Int):Option α:=if 0<=i then xs[i.toNat]? else none
theorem ZO {α:Type}{xs:List α}{i:Int}{x:α}(h:at? xs i=some x):0<=i/\xs[i.toNat]? =some x:=by
 unfold at? at h;split at h
 ·exact⟨by assumption,h⟩
 ·cases h
theorem ZLN {α:Type}(xs:List α)(n:Nat):at? xs (n:Int)=xs[n]? :=by simp[at?]
theorem ZD {α:Type}{xs:List α}{i:Nat}{x:α}(h:xs[i]? =some x):i<xs.length:=(zI.1 h).1
theorem ob {α β:Type}{x:Option α}{f:α->Option β}{r:β}(h:(x>>=f)=some r):∃a,x=some a/\f a=some r:=by
 cases x with
 |none=>cases h
 |some a=>exact⟨a,rfl,h⟩
theorem oc {β:Type}{p:Prop}[Decidable p]{x:Option β}{r:β}(h:(if p then x else none)=some r):p/\x=some r:=by
 split at h
 ·exact⟨by assumption,h⟩
 ·cases h
def ZK (f:Func):Code:=f.body.getD .skip
def Zb :List Nat->Code->Option Code
 | [],c=>some c
 |0::p,.seq a _=>Zb p a
 |_::p,.seq _ b=>Zb p b
 |0::p,.cond _ a _=>Zb p a
 |_::p,.cond _ _ b=>Zb p b
 |_::p,.block _ c=>Zb p c
 |_::p,.loop c=>Zb p c
 |_,_=>none
theorem ZR9 {p:List Nat}{b c c':Code}(h:Zb p b=some c)(h':Zb p b=some c'):c=c':=Option.some.inj (h.symm.trans h')
def cI (x:Int):List AV:=[.lit (.int .i64 x)]
def cU (x:Int):List AV:=[.lit (.int .u8 x)]
def cB (x:Bool):List AV:=[.lit (.bool x)]
def cS (x:ByteArray):List AV:=[.lit (.string x)]
def cL {α:Type}(f:α->List AV)(xs:List α):List AV:=[.arr (xs.map f)]
@[simp] theorem ZSG (x:Int):cI x=[.lit (.int .i64 x)]:=rfl
@[simp] theorem ZSD (x:Int):cU x=[.lit (.int .u8 x)]:=rfl
@[simp] theorem ZSH (x:Bool):cB x=[.lit (.bool x)]:=rfl
@[simp] theorem ZSE (x:ByteArray):cS x=[.lit (.string x)]:=rfl
@[simp] theorem ZSF {α:Type}(f:α->List AV)(xs:List α):cL f xs=[.arr (xs.map f)]:=rfl
section
variable {P : Program} {B nb N : Nat}
theorem Gh.frzSlot {fr:Frm}{σ:ZE}(i:Nat){l n sz:Nat}{es:List (List AV)}(hi:lk fr i=.own l n)(hl:σ[l]? =some (.elems sz es))(hn:es.length=n)(hp:Zc es):
  Gh B nb N ⟨fr,σ⟩ ⟨(i,.arr es)::fr,σ.set l .dead⟩:=by
 intro m0 w0 m a w h
 have hfr:Fr m w (m.kill l) w:=Fr.kill m w l
 refine⟨m.kill l,h.sim.kill hl,⟨h.fr.1,fun j=> ?_⟩,h.df,h.step.trans hfr h.ok,h.base,h.ok⟩
 simp only[lk]
 by_cases e:i=j
 ·subst e
  rw[iP rfl]
  have hv:Conc B (Av m) w m (lk fr i) (a.tmps.getD i undef):=h.fr.2 i
  rw[hi]at hv
  exact ZAS h.sim hl hn hp hv
 ·rw[iN e]
  exact(h.fr.2 j).mono hfr
theorem Gh.nilCellO {ot oe:Option TypeId}{fr:Frm}{σ:ZE}(l j sz:Nat){cs:List AV}(hl:σ[l]? =some (.tcells ot cs))(hj:cs[j]? =some (.lit (.slice none 0 0))):
  Gh B nb N ⟨fr,σ⟩ ⟨fr,(σ.set l (.tcells ot (cs.set j (.own σ.length 0))))++[.telems oe sz []]⟩:=by
 intro m0 w0 m a w h
 have hfr:Fr m w (m.push .nil) w:=Fr.push h.sim _ (Nat.le_refl _) (fun _ _=>rfl) (fun b hb=>by simp[MS.has]at hb) rfl rfl rfl
 have hs:=h.sim.push .nil (.telems oe sz []) hfr (fun _ _=>rfl) (fun b hb=>by simp[MS.has]at hb) ⟨by simp,by simp,.inl ⟨rfl,rfl⟩⟩
 have hll:l<σ.length:=(zI.1 hl).1
 have hn:m.n=σ.length:=h.sim.n
 refine⟨m.push .nil,⟨by simpa using hs.n,fun k=> ?_,hs.inj,hs.sep,hs.avlt,hs.tb⟩,⟨h.fr.1,fun i=>(h.fr.2 i).mono hfr⟩,h.df,h.step.trans hfr h.ok,h.base,h.ok⟩
 by_cases e:k=l
 ·subst e
  have hb:=hs.blk k
  rw[zD hll,hl]at hb
  rw[zD (by simpa using hll),zN (by simpa using hll)]
  obtain⟨b,ccs,ty,g1,g2,g3,g4⟩:=hb
  refine⟨b,ccs,ty,g1,g2,by simpa using g3,fun i x hi=> ?_⟩
  by_cases ej:j=i
  ·subst ej
   rw[zN (zI.1 hj).1]at hi
   obtain rfl:=Option.some.inj hi
   obtain⟨y,hy,hc⟩:=g4 j _ hj
   refine⟨y,hy,?_⟩
   rw[Conc.lit_inv hc,←hn]
   exact .ownNil m.n none (by simp[Map.push]) (Map.push_new _ _)
  ·rw[zO ej]at hi
   exact g4 i x hi
 ·have hb:=hs.blk k
  have:((σ.set l (.tcells ot (cs.set j (.own σ.length 0))))++[.telems oe sz []])[k]? =(σ++[Blk.telems oe sz []])[k]? :=by
   by_cases hk:k<σ.length
   ·rw[zD (by simpa using hk),zD hk,zO (Ne.symm e)]
   ·rw[zM (by simpa using hk),zM (by omega)];simp
  rw[this];exact hb
theorem Gh.nilCell {fr:Frm}{σ:ZE}(l j sz:Nat){cs:List AV}(hl:σ[l]? =some (.cells cs))(hj:cs[j]? =some (.lit (.slice none 0 0))):
  Gh B nb N ⟨fr,σ⟩ ⟨fr,(σ.set l (.cells (cs.set j (.own σ.length 0))))++[.elems sz []]⟩:=Gh.nilCellO l j sz hl hj
theorem Gh.nilCellT {fr:Frm}{σ:ZE}(T E l j sz:Nat){cs:List AV}(hl:σ[l]? =some (.tcells (some T) cs))(hj:cs[j]? =some (.lit (.slice none 0 0))):
  Gh B nb N ⟨fr,σ⟩ ⟨fr,(σ.set l (.tcells (some T) (cs.set j (.own σ.length 0))))++[.telems (some E) sz []]⟩:=Gh.nilCellO l j sz hl hj
def brw (σ:ZE):AV->AV->Prop
 | .own l n,.arr es=>∃sz,σ[l]? =some (.elems sz es)/\es.length=n/\Zc es
 | .ptr l off,.rptr cs off'=>off=off'/\σ[l]? =some (.cells cs)/\zR.pures cs
 | .fn f xs ys,.fn f' xs' ys'=>f=f'/\brws σ xs xs'/\brws σ ys ys'
 | .agg xs,.agg ys=>brws σ xs ys
 | .lit v,.arr es=>(v=.slice none 0 0/\es=[])∨Blk.pack [.arr es] [v]∈σ
 |x,y=>x.le y/\x.pure
where brws (σ:ZE):List AV->List AV->Prop
 | [],[]=>True
 |x::r,y::s=>brw σ x y/\brws σ r s
 |_,_=>False
def AV.lits :AV->Prop
 | .lit _=>True
 | .tup cs=>litss cs
 | .agg cs=>litss cs
 |_=>False
where litss:List AV->Prop
 | []=>True
 |x::r=>x.lits/\litss r
mutual
theorem ZLI {σ:ZE}{m:Map}{w:World}(h:Sim B m σ w):∀(x y:AV) (v:Value),Conc B (Av m) w m x v->brw σ x y->Conc B m.av w M0 y v
 |x,.arr es,v,hx,hb=>by
  cases x with
  |own l n=>
   obtain⟨sz,hl,hn,hp⟩:=hb
   have:=ZAS h hl hn hp hx
   exact(this.toM0 (by simp[zR])).weaken fun b hb=>.inr hb
  |lit u=>
   obtain rfl:=Conc.lit_inv hx
   rcases hb with⟨rfl,rfl⟩|hb
   ·exact .arrNil none 0
   ·obtain⟨l,hl⟩:=List.getElem?_of_mem hb
    have hbk:=h.blk l
    rw[hl]at hbk
    obtain⟨F,g1,_,g3⟩:=hbk
    obtain⟨u',hu,hc⟩:=g3.conc (W:=m.av) (fun b hb=>h.sep b ⟨l,by rw[g1];exact hb⟩) 0 _ rfl
    simp at hu;subst hu;exact hc
  |_=>exact((hx.toM0 hb.2).weaken fun b hb=>.inr hb).le hb.1
 |x,.rptr cs off',v,hx,hb=>by
  cases x with
  |ptr l off=>
   obtain⟨rfl,hl,hp⟩:=hb
   have hbk:=h.blk l
   rw[hl]at hbk
   obtain⟨b,ccs,ty,g1,g2,g3,g4⟩:=hbk
   have hv:v=.pointer (some ⟨b,off,none⟩):=by
    cases hx with
    |ptrOther l off v hl' hne=>exact absurd g1 (hne b)
    |ptrBox l off b' hl' hb'=>rw[g1]at hb';cases hb';rfl
   subst hv
   have hw:Wr m b:=⟨l,by rw[g1];rfl⟩
   have:=Conc.rptr (B:=B) (W:=m.av) (w:=w) (m:=M0) cs off b 0 (fun k=>ccs.getD k undef) (h.sep b hw) (h.mapOk b hw).1 (fun k x hk=>by
     obtain⟨y,hy,_⟩:=g4 k x hk
     rw[ZBX g2,Nat.zero_add]
     simp[zA,hy]) (fun k x hk=>by
     obtain⟨y,hy,hc⟩:=g4 k x hk
     have e:ccs.getD k undef=y:=by simp[zA,hy]
     rw[e]
     exact(hc.toM0 (Zx hp hk)).weaken fun b hb=>.inr hb)
   simpa using this
  |_=>exact((hx.toM0 hb.2).weaken fun b hb=>.inr hb).le hb.1
 |x,.fn f' xs' ys',v,hx,hb=>by
  cases x with
  |fn f xs ys=>
   obtain⟨rfl,h1,h2⟩:=hb
   cases hx with
   |fn _ _ _ us vs l1 l2 c1 c2=>
    obtain⟨a1,a2⟩:=ZA9 h xs xs' (fun i=>us.getD i undef) c1 h1
    obtain⟨b1,b2⟩:=ZA9 h ys ys' (fun i=>vs.getD i undef) c2 h2
    exact .fn f xs' ys' us vs (by omega) (by omega) a2 b2
  |_=>exact((hx.toM0 hb.2).weaken fun b hb=>.inr hb).le hb.1
 |x,.agg ys,v,hx,hb=>by
  cases x with
  |agg xs=>
   cases hx with
   |agg _ us hlen hc=>
    obtain⟨a1,a2⟩:=ZA9 h xs ys (fun i=>us.getD i undef) hc hb
    exact .agg ys us (by omega) a2
  |_=>exact((hx.toM0 hb.2).weaken fun b hb=>.inr hb).le hb.1
 |x,.lit u,v,hx,hb=>by
  have hb':x.le (.lit u)/\x.pure:=by cases x<;>exact hb
  exact((hx.toM0 hb'.2).weaken fun b hb=>.inr hb).le hb'.1
 |x,.junk,v,hx,hb=>.junk v
 |x,.own l n,v,hx,hb=>by
  have hb':x.le (.own l n)/\x.pure:=by cases x<;>exact hb
  exact((hx.toM0 hb'.2).weaken fun b hb=>.inr hb).le hb'.1
 |x,.pre l n k,v,hx,hb=>by
  have hb':x.le (.pre l n k)/\x.pure:=by cases x<;>exact hb
  exact((hx.toM0 hb'.2).weaken fun b hb=>.inr hb).le hb'.1
 |x,.ptr l n,v,hx,hb=>by
  have hb':x.le (.ptr l n)/\x.pure:=by cases x<;>exact hb
  exact((hx.toM0 hb'.2).weaken fun b hb=>.inr hb).le hb'.1
 |x,.eptr l n i o,v,hx,hb=>by
  have hb':x.le (.eptr l n i o)/\x.pure:=by cases x<;>exact hb
  exact((hx.toM0 hb'.2).weaken fun b hb=>.inr hb).le hb'.1
 |x,.tup ys,v,hx,hb=>by
  have hb':x.le (.tup ys)/\x.pure:=by cases x<;>exact hb
  exact((hx.toM0 hb'.2).weaken fun b hb=>.inr hb).le hb'.1
theorem ZA9 {σ:ZE}{m:Map}{w:World}(h:Sim B m σ w):∀(xs ys:List AV) (us:Nat->Value),(∀(i:Nat) (x:AV),xs[i]? =some x->Conc B (Av m) w m x (us i))->brw.brws σ xs ys->
  xs.length=ys.length/\∀(i:Nat) (y:AV),ys[i]? =some y->Conc B m.av w M0 y (us i)
 | [],[],us,_,_=>⟨rfl,fun i y hi=>by simp at hi⟩
 |x::r,y::s,us,hc,hb=>by
  obtain⟨a1,a2⟩:=ZA9 h r s (fun i=>us (i+1)) (fun i z hi=>hc (i+1) z (by simpa using hi)) hb.2
  refine⟨by simp[a1],fun i z hi=> ?_⟩
  cases i with
  |zero=>simp at hi;subst hi;exact ZLI h x y (us 0) (hc 0 x (by simp)) hb.1
  |succ i=>exact a2 i z (by simpa using hi)
 | [],_::_,_,_,hb=>hb.elim
 |_::_,[],_,_,hb=>hb.elim
end
theorem Conc.lits {W:Nat->Prop}{w:World}{m:Map}{x:AV}{v:Value}(h:Conc B W w m x v):x.lits->∀(W':Nat->Prop) (m':Map),Conc B W' w m' x v:=by
 induction h with
 |lit v=>intro _ W' m';exact .lit v
 |agg cs us hlen hx2 ih=>
  intro hx W' m'
  refine .agg cs us hlen fun i x hi=>ih i x hi ?_ W' m'
  clear hlen hx2 ih
  simp only[AV.lits]at hx
  induction cs generalizing i with
  |nil=>simp at hi
  |cons c r ih=>cases i with
   |zero=>simp at hi;subst hi;exact hx.1
   |succ i=>exact ih hx.2 i (by simpa using hi)
 |tup cs us hlen hx2 ih=>
  intro hx W' m'
  refine .tup cs us hlen fun i x hi=>ih i x hi ?_ W' m'
  clear hlen hx2 ih
  simp only[AV.lits]at hx
  induction cs generalizing i with
  |nil=>simp at hi
  |cons c r ih=>cases i with
   |zero=>simp at hi;subst hi;exact hx.1
   |succ i=>exact ih hx.2 i (by simpa using hi)
 |_=>intro hx;exact hx.elim
theorem PureCall.ent {f:FuncId}{args:List AV}{r:AV}(h:PureCall P B f args r):Ent P f:=h.1
theorem PureCall.lend {f:FuncId}{args args':List AV}{r:AV}(h:PureCall P B f args' r){σ:ZE}(hb:brw.brws σ args args')(hr:r.lits){K:AV->ZE->Prop}{b:Box K}(hK:K r σ):ACall P B f args σ (hold K b):=by
 refine⟨h.1,fun m w vs hs hv=> ?_⟩
 obtain⟨a1,a2⟩:=ZA9 hs args args' (fun i=>vs.getD i undef) hv.2 hb
 refine(h.2.2 m.av w vs ⟨hs.avlt,hs.tb.w⟩ ⟨by rw[hv.1,a1],a2⟩).mono ?_
 rintro e w' ⟨u,rfl,hc,hbl⟩
 refine⟨u,r,σ,m,rfl,hK,hs.below hbl,?_,Fr.ofBelow hbl⟩
 exact hc.lits hr _ _
theorem ACall.frz {f:FuncId}{args:List AV}{σ:ZE}{K:AV->ZE->Prop}{b:Box K}(h:ZKx σ args (hold (fun args' σ'=>ACall P B f args' σ' (hold K b)) .mk))(he:Ent P f):ACall P B f args σ (hold K b):=by
 refine⟨he,fun m w vs hs hv=> ?_⟩
 obtain⟨xs',σ',m',hk,hl,hs',hf,hc⟩:=ZCy args σ m _ hs h (fun i=>vs.getD i undef) hv.2
 refine(hk.2 m' w vs hs' ⟨by rw[hv.1,hl],hc⟩).mono ?_
 rintro e w' ⟨u,r,σ'',m'',rfl,hK,hs2,hc2,hf2⟩
 exact⟨u,r,σ'',m'',rfl,hK,hs2,hc2,hf.trans hf2 hs.mapOk⟩
end
structure Nice {α:Type}(c:α->List AV):Prop where
 cl:∀n x,zS.closeds n (c x)
 pu:∀x,zR.pures (c x)
 ok:∀σ x,Zm σ (c x)
structure NiceLen {α:Type}(c:α->List AV)(n:Nat):Prop where
 len:∀x,(c x).length=n
@[simp] theorem ZRI :Nice cI:=⟨by simp,by simp,by simp⟩
@[simp] theorem ZRF :Nice cU:=⟨by simp,by simp,by simp⟩
@[simp] theorem ZRJ :Nice cB:=⟨by simp,by simp,by simp⟩
@[simp] theorem ZRG :Nice cS:=⟨by simp,by simp,by simp⟩
@[simp] theorem ZRH {α:Type}{f:α->List AV}:Nice (cL f):=⟨by simp,by simp,by simp⟩
@[simp] theorem ZRC :NiceLen cI 1:=⟨by simp⟩
@[simp] theorem ZQ9 :NiceLen cU 1:=⟨by simp⟩
@[simp] theorem ZRD :NiceLen cB 1:=⟨by simp⟩
@[simp] theorem ZRA :NiceLen cS 1:=⟨by simp⟩
@[simp] theorem ZRB {α:Type}{f:α->List AV}:NiceLen (cL f) 1:=⟨by simp⟩
section
theorem ZGX {α:Type}{c:α->List AV}{n:Nat}(h:Nice c)(l:List α):Zg n (zL c l):=by
 intro e he;obtain⟨x,_,rfl⟩:=zK.1 he;exact h.cl n x
theorem ZGW (n:Nat):Zg n []:=by intro e he;cases he
theorem ZFa {n:Nat}{a:List AV}{l:List (List AV)}:Zg n (a::l)↔zS.closeds n a/\Zg n l:=by simp[Zg]
theorem ZD1 {n:Nat}{k l:List (List AV)}:Zg n (k++l)↔Zg n k/\Zg n l:=by
 constructor
 ·intro h;exact⟨fun e he=>h e (zG _ he),fun e he=>h e (zF _ he)⟩
 ·rintro⟨h1,h2⟩ e he;rcases zJ.1 he with he|he
  ·exact h1 e he
  ·exact h2 e he
theorem ZGV {n:Nat}{a:List AV}{l:List (List AV)}{i:Nat}(h:Zg n l)(h':zS.closeds n a):Zg n (l.set i a):=by
 intro e he;rcases zC he with he|rfl
 ·exact h e he
 ·exact h'
theorem ZCg {n:Nat}{a:List AV}{k:Nat}(h':zS.closeds n a):Zg n (zH k a):=by
 intro e he;rw[zE he];exact h'
attribute [simp] ZGX ZGW ZFa ZD1 ZGV ZCg
theorem ZI6 {α:Type}{c:α->List AV}(h:Nice c)(l:List α):Zc (zL c l):=by
 intro e he;obtain⟨x,_,rfl⟩:=zK.1 he;exact h.pu x
theorem ZI5 :Zc []:=by intro e he;cases he
theorem ZG7 {a:List AV}{l:List (List AV)}:Zc (a::l)↔zR.pures a/\Zc l:=by simp[Zc]
theorem ZFA {k l:List (List AV)}:Zc (k++l)↔Zc k/\Zc l:=by
 constructor
 ·intro h;exact⟨fun e he=>h e (zG _ he),fun e he=>h e (zF _ he)⟩
 ·rintro⟨h1,h2⟩ e he;rcases zJ.1 he with he|he
  ·exact h1 e he
  ·exact h2 e he
theorem ZI4 {a:List AV}{l:List (List AV)}{i:Nat}(h:Zc l)(h':zR.pures a):Zc (l.set i a):=by
 intro e he;rcases zC he with he|rfl
 ·exact h e he
 ·exact h'
theorem ZDM {a:List AV}{k:Nat}(h':zR.pures a):Zc (zH k a):=by
 intro e he;rw[zE he];exact h'
attribute [simp] ZI6 ZI5 ZG7 ZFA ZI4 ZDM
theorem ZKc {α:Type}{c:α->List AV}{σ:ZE}(h:Nice c)(l:List α):ZBL σ (zL c l):=by
 intro e he;obtain⟨x,_,rfl⟩:=zK.1 he;exact h.ok σ x
theorem ZKb (σ:ZE):ZBL σ []:=by intro e he;cases he
theorem ZJD {σ:ZE}{a:List AV}{l:List (List AV)}:ZBL σ (a::l)↔Zm σ a/\ZBL σ l:=by simp[ZBL]
theorem ZFz {σ:ZE}{k l:List (List AV)}:ZBL σ (k++l)↔ZBL σ k/\ZBL σ l:=by
 constructor
 ·intro h;exact⟨fun e he=>h e (zG _ he),fun e he=>h e (zF _ he)⟩
 ·rintro⟨h1,h2⟩ e he;rcases zJ.1 he with he|he
  ·exact h1 e he
  ·exact h2 e he
theorem ZKa {σ:ZE}{a:List AV}{l:List (List AV)}{i:Nat}(h:ZBL σ l)(h':Zm σ a):ZBL σ (l.set i a):=by
 intro e he;rcases zC he with he|rfl
 ·exact h e he
 ·exact h'
theorem ZDm {σ:ZE}{a:List AV}{k:Nat}(h':Zm σ a):ZBL σ (zH k a):=by
 intro e he;rw[zE he];exact h'
attribute [simp] ZKc ZKb ZJD ZFz ZKa ZDm
theorem ZMH {α:Type}{c:α->List AV}{n:Nat}(h:NiceLen c n)(l:List α):ZFN n (zL c l):=by
 intro e he;obtain⟨x,_,rfl⟩:=zK.1 he;exact h.len x
theorem ZMG (n:Nat):ZFN n []:=by intro e he;cases he
theorem ZKl {n:Nat}{a:List AV}{l:List (List AV)}:ZFN n (a::l)↔a.length=n/\ZFN n l:=by simp[ZFN]
theorem ZHM {n:Nat}{k l:List (List AV)}:ZFN n (k++l)↔ZFN n k/\ZFN n l:=by
 constructor
 ·intro h;exact⟨fun e he=>h e (zG _ he),fun e he=>h e (zF _ he)⟩
 ·rintro⟨h1,h2⟩ e he;rcases zJ.1 he with he|he
  ·exact h1 e he
  ·exact h2 e he
theorem ZMF {n:Nat}{a:List AV}{l:List (List AV)}{i:Nat}(h:ZFN n l)(h':a.length=n):ZFN n (l.set i a):=by
 intro e he;rcases zC he with he|rfl
 ·exact h e he
 ·exact h'
theorem ZEL {n:Nat}{a:List AV}{k:Nat}(h':a.length=n):ZFN n (zH k a):=by
 intro e he;rw[zE he];exact h'
attribute [simp] ZMH ZMG ZKl ZHM ZMF ZEL
end
@[simp] theorem ZSu (a b:Int):(a==b)=decide (a=b):=by by_cases h:a=b<;>simp[h]
@[simp] theorem ZSt (a b:List UInt8):(a==b)=decide (a=b):=by by_cases h:a=b<;>simp[h]
@[simp] theorem ZSI (a b:Bool):(a==b)=decide (a=b):=by cases a<;>cases b<;>rfl
@[simp] theorem ZQu :(⟨#[]⟩:ByteArray)=ByteArray.empty:=rfl
@[simp] theorem ZQw (xs:List Int):u8s (zL cU xs)=some xs:=by
 induction xs with
 |nil=>rfl
 |cons a r ih=>simp[u8s,ZQm,ih]
attribute [simp ↓] List.getElem?_map
attribute [simp] brw brw.brws AV.lits AV.lits.litss Lo.post
theorem ZIL {α:Type}{l:List α}{i:Nat}(h:i<l.length):¬l=[]:=fun e=>by subst e;simp at h
theorem cg {p q:Prop}{b:Box q}(h':q)(h:p:=by first|omega|assumption|exact ZIL (by assumption)|rfl|(simp;done)|(simp;omega)|(simp[*];done)|(simp_all;done)|(simp_all;omega)):chk p (hold q b):=⟨h,h'⟩
theorem abr.sp {c y n:Prop}{b:Box y}{b':Box n}{p:Prop}{d:Decidable p}{α:Type}{x x' r:α}(h:c->p->x=r->y)(h':¬c->¬p->x'=r->n)
  (e:c->p:=by first|exact id|(intro h;omega)|(simp;done)|(intro h;simpa using h)|(intro h;simp at h ⊢;omega)|(intro h;simp_all)) (e':¬c->¬p:=by first|exact id|(intro h;omega)|(simp;done)|(intro h;simpa using h)|(intro h;simp at h ⊢;omega)|(intro h;simp_all)) (hF:@ite α p d x x'=r):abr c (hold y b) (hold n b'):=
 ⟨fun k=>h k (e k) (by rw[iP (e k)]at hF;exact hF),fun k=>h' k (e' k) (by rw[iN (e' k)]at hF;exact hF)⟩
theorem abr.ns {c y n:Prop}{b:Box y}{b':Box n}{p:Prop}{d:Decidable p}{α:Type}{x x' r:α}(h:c->¬p->x'=r->y)(h':¬c->p->x=r->n)
  (e:c->¬p:=by first|exact id|(intro h;omega)|(simp;done)|(intro h;simpa using h)|(intro h;simp at h ⊢;omega)|(intro h;simp_all)) (e':¬c->p:=by first|exact id|(intro h;omega)|(simp;done)|(intro h;simpa using h)|(intro h;simp at h ⊢;omega)|(intro h;simp_all)) (hF:@ite α p d x x'=r):abr c (hold y b) (hold n b'):=
 ⟨fun k=>h k (e k) (by rw[iN (e k)]at hF;exact hF),fun k=>h' k (e' k) (by rw[iP (e' k)]at hF;exact hF)⟩
theorem auz {q:Prop}(g:q:=by first|omega|simp_all):q:=g
theorem Gh.to3 {B nb N:Nat}{fr fr':Frm}{σ s:ZE}(hn:nb<=s.length)(h:ZDb σ s/\Zn s.length s/\ZMW s.length fr fr'):Gh B nb N ⟨fr,σ⟩ ⟨fr',s⟩:=Gh.to hn h.1 h.2.1 h.2.2
end Go.Vl
