import Derived.Test.YtmjpphcloedceaaGreatVlOpen
set_option linter.all false
open Array renaming getD_eq_getD_getElem?->zA,length_toList->zB
open List renaming mem_or_eq_of_mem_set->zC,getElem?_append_left->zD,eq_of_mem_replicate->zE,mem_append_right->zF,mem_append_left->zG,replicate->zH,getElem?_eq_some_iff->zI,mem_append->zJ,mem_map->zK,map->zL,getElem?_append_right->zM,getD_eq_getElem?_getD->zN,getElem?_set_self->zO,getElem?_set_ne->zP
open ByteArray.toList renaming loop->zQ
namespace Go.Vl
open Go Go.RowKit Go.ChangeShapes Go.WideShapes
open Go.DataW renaming TrodAll->zR
def ZAy (P:Program)(t:TypeId)(x:AV):Prop:=
 match P.underlying t with
 |some (.struct _)=>∃n as,x=.agg as/\ZAh P n t as
 |_=>∃n,ZAh P n t [x]
def ZBh (P:Program):List TypeId->List AV->Prop
 | [],xs=>xs=[]
 |t::ts,xs=>∃x r,xs=x::r/\ZAy P t x/\ZBh P ts r
def ZNJ (P:Program)(L:List TypeId)(t:TypeId):Bool:=P.readableRec t&& decide (t<P.types.size)&& L.contains t&& match P.underlying t with
 |some .bool|some (.int _)|some .string|some (.slice _)|some (.pointer _)|some (.struct _)=>true
 |_=>false
section
variable {H : Type} {enc : TypeId × Value -> H} {P : Program}
theorem ZKV {v:Value}{x:AV}{w:World}{as:List AV}(hv:v.cells=#[v])(h:Rl w as v.cells.toList)(has:as=[x]):Conc BIG (fun _=>False) w M0 x v:=by
 subst has
 rw[hv]at h
 simpa using h.2 0 x rfl
variable {L:List TypeId}
theorem ZKT (hty:tyB P L=true){w:World}{spare:Nat->Bool}{held:Bool}{t:TypeId}{v:Value}{d:DataW H}{ps:List MemPlace}{base:Nat}(ht:ZNJ P L t=true)(hval:Value.okWide P w .any base t v)(h:DataW.Trod enc P w 0 spare held t v d ps):∃x,Conc BIG (fun _=>False) w M0 x v/\ZAy P t x:=by
 obtain⟨fuel,h⟩:=h
 simp only[ZNJ,Bool.and_eq_true,decide_eq_true_eq]at ht
 obtain⟨⟨⟨_,_⟩,hlt⟩,hk⟩:=ht
 obtain⟨as,hr,hta⟩:=ZEp hty fuel t _ _ hlt h
 have one:(hv:v.cells=#[v])->(∃x,as=[x])->(∀fs,P.underlying t≠some (.struct fs))->∃x,Conc BIG (fun _=>False) w M0 x v/\ZAy P t x:=by
  rintro hv ⟨x,rfl⟩ hns
  refine⟨x,ZKV hv hr rfl,?_⟩
  unfold ZAy
  split
  ·next fs hu=>exact absurd hu (hns fs)
  ·exact⟨fuel,hta⟩
 have ZNF:∀hv:v.cells=#[v],∃x,as=[x]:=by
  intro hv
  have:=hr.1
  rw[hv]at this
  exact List.length_eq_one_iff.1 (by simpa using this)
 cases hu:P.underlying t with
 |none=>rw[hu]at hk;cases hk
 |some dsc=>
  cases dsc with
  |bool=>obtain⟨b,rfl⟩:=okWide_bool hu hval;exact one rfl (ZNF rfl) (by simp[hu])
  |int k=>obtain⟨b,rfl⟩:=okWide_int hu hval;exact one rfl (ZNF rfl) (by simp[hu])
  |string=>obtain⟨b,rfl⟩:=okWide_string hu hval;exact one rfl (ZNF rfl) (by simp[hu])
  |slice e=>obtain⟨_,_,_,rfl⟩:=okWide_slice hu hval;exact one rfl (ZNF rfl) (by simp[hu])
  |pointer e=>obtain⟨_,rfl⟩:=okWide_pointer hu hval;exact one rfl (ZNF rfl) (by simp[hu])
  |struct fs=>
   obtain⟨cs,rfl,hsz⟩:=okWide_struct hu hval
   refine⟨.agg as,.agg as cs (by have:=hr.1;simpa[Value.cells]using this.symm) (fun i x hx=> ?_),?_⟩
   ·have:=hr.2 i x hx
    simpa[Value.cells,zA,zN]using this
   ·unfold ZAy;rw[hu];exact⟨fuel,as,rfl,hta⟩
  |_=>rw[hu]at hk;cases hk
theorem ZFJ {L:List TypeId}(hty:tyB P L=true){w:World}{spare:Nat->Bool}{held:Bool}{base:Nat}:∀(ts:List TypeId) (vs:List Value) (ds:List (DataW H)) (ps:List MemPlace),
  (∀t,t∈ts->ZNJ P L t=true)->(∀(j:Nat) t v,ts[j]? =some t->vs[j]? =some v->Value.okWide P w .any base t v)->zR enc P w 0 spare held ts vs ds ps->
  ∃xs:List AV,vs.length=xs.length/\(∀(i:Nat) (x:AV),xs[i]? =some x->Conc BIG (fun _=>False) w M0 x (vs.getD i undef))/\ZBh P ts xs/\ds.length=ts.length
 | [],vs,ds,ps,_,_,h=>by
  cases vs<;>cases ds<;>simp[zR]at h
  exact⟨[],rfl,fun i x hi=>by simp at hi,rfl,rfl⟩
 |t::ts,vs,ds,ps,ht,hval,h=>by
  cases vs with
  |nil=>simp[zR]at h
  |cons v vs=>
   cases ds with
   |nil=>simp[zR]at h
   |cons d ds=>
    simp only[zR]at h
    obtain⟨p,q,h1,h2,_⟩:=h
    obtain⟨x,hx,htx⟩:=ZKT hty (ht t (by simp)) (hval 0 t v rfl rfl) h1
    obtain⟨xs,hl,hc,hta,hdl⟩:=ZFJ hty ts vs ds q (fun t h=>ht t (by simp[h])) (fun j t v h3 h4=>hval (j+1) t v (by simpa using h3) (by simpa using h4)) h2
    refine⟨x::xs,by simp[hl],fun i y hi=> ?_,⟨x,xs,rfl,htx,hta⟩,by simp[hdl]⟩
    cases i with
    |zero=>simp at hi;subst hi;exact hx
    |succ i=>exact hc i y (by simpa using hi)
theorem ZCU {L:List TypeId}(hl:laidOutB P=true){W W':World}(hb:Below W.heap.size W W'):∀{ts:List TypeId} {vs:List Value} {ds:List (DataW H)} {ps:List MemPlace},(∀t,t∈ts->ZNJ P L t=true)->
  zR enc P W 0 (fun _=>true) true ts vs ds ps->(∀x,x∈ps->x.block<W.heap.size)->zR enc P W' 0 (fun b=>decide (b<W.heap.size)) true ts vs ds ps
 | [],vs,ds,ps,_,h,_=>by
  cases vs<;>cases ds<;>simp[zR]at h ⊢
  exact h
 |t::ts,vs,ds,ps,ht,h,hlt=>by
  cases vs with
  |nil=>simp[zR]at h
  |cons v vs=>
   cases ds with
   |nil=>simp[zR]at h
   |cons d ds=>
    simp only[zR]at h ⊢
    obtain⟨p,q,h1,h2,rfl⟩:=h
    have hk:=ht t (by simp)
    simp only[ZNJ,Bool.and_eq_true,decide_eq_true_eq]at hk
    exact⟨p,q,Below.trod hl hk.1.1.1 hk.1.1.2 h1 hb (fun x hx=>hlt x (by simp[hx])),ZCU hl hb (fun t h=>ht t (by simp[h])) h2 (fun x hx=>hlt x (by simp[hx])),rfl⟩
theorem law_any {f:FuncId}{fn:Func}{s:ChangeSpec}{tb:TypeId}(hlaid:laidOutB P=true)(hty:tyB P L=true)(hts:∀t,t∈fn.params.toList->ZNJ P L t=true)(hres:fn.resultTypes=#[tb])(htb:P.underlying tb=some .bool)(hv:s.vars=[])(hs:∀(ds:List (DataW H)),ds.length=fn.params.toList.length->s.fn H ds={results:=[.lit (.bool true)],args:=ds})(hcall:∀xs,ZBh P fn.params.toList xs->PureCall P BIG f xs (.lit (.bool true))){W:World}{base:Nat}{args:Array Value}{ds gs:List (DataW H)}{before:List MemPlace}{apart fresh handsOn:Bool}(hval:∀(j:Nat) t v,fn.params[j]? =some t->args[j]? =some v->Value.okWide P W .any base t v)(hW:DataW.Whole enc P fn.params.toList s.vars apart W args.toList ds gs before):
  Calls P f args W fun e W'=>∃v,e=.returned v/\s.post enc P fn apart fresh handsOn false W args v W':=by
 have hW':=hW
 obtain⟨p,q,hA,hV,rfl,hfz,hnd⟩:=hW
 rw[hv]at hV
 obtain⟨rfl,rfl⟩:=trodVars_none hV
 obtain⟨xs,hl,hc,hta,hdl⟩:=ZFJ hty fn.params.toList args.toList ds p hts (fun j t v h1 h2=>hval j t v (by simpa using h1) (by simpa using h2)) hA
 obtain⟨_,_,hrun⟩:=hcall xs hta
 refine(hrun (fun _=>False) W args ⟨fun b hb=>hb.elim,fun g hg=>by simp[ZNM,BIG]at hg⟩ ⟨by simpa using hl,fun i x hi=> ?_⟩).mono ?_
 ·have:=hc i x hi
  simpa[zA,zN]using this
 rintro e W' ⟨u,rfl,hu,hb⟩
 have hu:=Conc.lit_inv hu
 subst hu
 have hlt:∀x,x∈p->x.block<W.heap.size:=fun x hx=>by simpa using hW'.lt x (by simpa using hx)
 have hargs:=ZCU hlaid hb hts hA hlt
 refine⟨_,rfl,?_⟩
 have hsp:s.fn H (ds++[])={results:=[.lit (.bool true)],args:=ds}:=by rw[List.append_nil];exact hs ds hdl
 refine⟨ds,[],p++[],[],p,[],hW',?_,?_,?_,hb.frame _,fun h=>by cases h⟩
 ·rw[hsp,hres];exact trodAll_mk1 (shut_bool htb true)
 ·rw[hsp];exact hargs
 ·rw[hv,hsp];exact rfl
end
end Go.Vl
namespace Go.Vl
open Go Go.RowKit
def rem (l:Int)(n:Nat):Int:=if n<=l then l-n else -1
theorem ZLn {l:Int}{n:Nat}(h:(n:Int)<=l):rem l n=l-n:=by simp[rem,h]
def ZQC {α:Type}(xs:List α)(k:Nat)(z:α):List α:=xs.take k++zH (xs.length-k) z
end Go.Vl
namespace Go.Vl
open Go Go.RowKit
open AV renaming pure->zS,closed->zT
theorem ZJw (a b:ByteArray):(a==b)=decide (a=b):=by
 obtain⟨a⟩:=a
 obtain⟨b⟩:=b
 show(a==b)=_
 by_cases h:a=b
 ·subst h;simp
 ·simp[h]
theorem ZGC (bs:ByteArray):∀(n i:Nat) (r:List UInt8),bs.size-i=n->zQ bs i r=r.reverse++bs.data.toList.drop i:=by
 intro n
 induction n with
 |zero=>
  intro i r h
  unfold zQ
  have:¬i<bs.size:=by omega
  rw[iN this,List.drop_eq_nil_of_le (by rw[zB];exact Nat.le_of_not_lt this)];simp
 |succ n ih=>
  intro i r h
  have hi:i<bs.size:=by omega
  unfold zQ
  rw[iP hi,ih (i+1) _ (by omega)]
  have hi':i<bs.data.toList.length:=by rw[zB];exact hi
  rw[List.drop_eq_getElem_cons hi']
  have:bs.get! i=bs.data.toList[i]:=by
   cases bs with
   |mk d=>
    show d[i]! =_
    rw[getElem!_pos d i (by simpa using hi')];simp
  rw[this];simp
theorem ZE4 (bs:ByteArray):bs.toList=bs.data.toList:=by
 unfold ByteArray.toList
 rw[ZGC bs _ 0 [] rfl];simp
theorem ZAP {a b:ByteArray}:a.toList=b.toList↔a=b:=by
 rw[ZE4,ZE4]
 constructor
 ·intro h
  obtain⟨⟨a⟩⟩:=a;obtain⟨⟨b⟩⟩:=b
  simp at h;subst h;rfl
 ·intro h;rw[h]
inductive Lo (R S:Type)
 |ret (r:R)
 |go (s:S)
def Lo.post {R S:Type}(o:Lo R S)(f:R->Prop)(g:S->Prop):Prop:=
 match o with
 | .ret r=>f r
 | .go s=>g s
abbrev LIM :Nat:=67108864
def at? {α:Type}(xs:List α)(i:Int):Option α:=if 0<=i then xs[i.toNat]? else none
variable {α:Type}{x:α}
theorem Zy {xs:List α}{i:Int}(h:at? xs i=some x):0<=i/\xs[i.toNat]? =some x:=by
 unfold at? at h;split at h
 ·exact⟨by assumption,h⟩
 ·cases h
theorem ZJz (xs:List α)(n:Nat):at? xs (n:Int)=xs[n]? :=by simp[at?]
theorem ZA {xs:List α}{i:Nat}(h:xs[i]? =some x):i<xs.length:=(zI.1 h).1
theorem ob {β:Type}{x:Option α}{f:α->Option β}{r:β}(h:(x>>=f)=some r):∃a,x=some a/\f a=some r:=by
 cases x with
 |none=>cases h
 |some a=>exact⟨a,rfl,h⟩
variable {p:Prop}
theorem oc {β:Type}[Decidable p]{x:Option β}{r:β}(h:(if p then x else none)=some r):p/\x=some r:=by
 split at h
 ·exact⟨by assumption,h⟩
 ·cases h
def ZJ (f:Func):Code:=f.body.getD .skip
def Zc :List Nat->Code->Option Code
 | [],c=>some c
 |0::p,.seq a _=>Zc p a
 |_::p,.seq _ b=>Zc p b
 |0::p,.cond _ a _=>Zc p a
 |_::p,.cond _ _ b=>Zc p b
 |_::p,.block _ c=>Zc p c
 |_::p,.loop c=>Zc p c
 |_,_=>none
theorem ZAK {p:List Nat}{b c c':Code}(h:Zc p b=some c)(h':Zc p b=some c'):c=c':=Option.some.inj (h.symm.trans h')
def cI (x:Int):List AV:=[.lit (.int .i64 x)]
def cU (x:Int):List AV:=[.lit (.int .u8 x)]
def cB (x:Bool):List AV:=[.lit (.bool x)]
def cS (x:ByteArray):List AV:=[.lit (.string x)]
def cL {α:Type}(f:α->List AV)(xs:List α):List AV:=[.arr (xs.map f)]
@[simp] theorem ZQH (x:Int):cI x=[.lit (.int .i64 x)]:=rfl
@[simp] theorem ZQE (x:Int):cU x=[.lit (.int .u8 x)]:=rfl
@[simp] theorem ZQI (x:Bool):cB x=[.lit (.bool x)]:=rfl
@[simp] theorem ZQF (x:ByteArray):cS x=[.lit (.string x)]:=rfl
@[simp] theorem ZQG (f:α->List AV)(xs:List α):cL f xs=[.arr (xs.map f)]:=rfl
section
variable {P : Program} {B nb N : Nat}
variable {σ:ZE}
theorem Gh.nilCellO {ot oe:Option TypeId}{fr:Frm}(l j sz:Nat){cs:List AV}(hl:σ[l]? =some (.tcells ot cs))(hj:cs[j]? =some (.lit (.slice none 0 0))):
  Gh B nb N ⟨fr,σ⟩ ⟨fr,(σ.set l (.tcells ot (cs.set j (.own σ.length 0))))++[.telems oe sz []]⟩:=by
 intro m0 w0 m a w h
 have hfr:Fr m w (m.push .nil) w:=Fr.push h.sim _ (Nat.le_refl _) (fun _ _=>rfl) (fun b hb=>by simp[MS.has]at hb) rfl rfl rfl
 have hs:=h.sim.push .nil (.telems oe sz []) hfr (fun _ _=>rfl) (fun b hb=>by simp[MS.has]at hb) ⟨by simp,by simp,.inl ⟨rfl,rfl⟩⟩
 have hll:l<σ.length:=(zI.1 hl).1
 have hn:m.n=σ.length:=h.sim.n
 refine⟨m.push .nil,⟨by simpa using hs.n,fun k=> ?_,hs.inj,hs.sep,hs.avlt,hs.tb⟩,⟨h.fr.1,fun i=>(h.fr.2 i).mono hfr⟩,h.df,h.step.trans hfr h.ok,h.base,h.ok⟩
 by_cases e:k=l
 ·subst e
  have hb:=hs.blk k
  rw[zD hll,hl]at hb
  rw[zD (by simpa using hll),zO (by simpa using hll)]
  obtain⟨b,ccs,ty,g1,g2,g3,g4⟩:=hb
  refine⟨b,ccs,ty,g1,g2,by simpa using g3,fun i x hi=> ?_⟩
  by_cases ej:j=i
  ·subst ej
   rw[zO (zI.1 hj).1]at hi
   obtain rfl:=Option.some.inj hi
   obtain⟨y,hy,hc⟩:=g4 j _ hj
   refine⟨y,hy,?_⟩
   rw[Conc.lit_inv hc,←hn]
   exact .ownNil m.n none (by simp[Map.push]) (Map.push_new _ _)
  ·rw[zP ej]at hi
   exact g4 i x hi
 ·have hb:=hs.blk k
  have:((σ.set l (.tcells ot (cs.set j (.own σ.length 0))))++[.telems oe sz []])[k]? =(σ++[Blk.telems oe sz []])[k]? :=by
   by_cases hk:k<σ.length
   ·rw[zD (by simpa using hk),zD hk,zP (Ne.symm e)]
   ·rw[zM (by simpa using hk),zM (by omega)];simp
  rw[this];exact hb
theorem Gh.nilCell {fr:Frm}(l j sz:Nat){cs:List AV}(hl:σ[l]? =some (.cells cs))(hj:cs[j]? =some (.lit (.slice none 0 0))):
  Gh B nb N ⟨fr,σ⟩ ⟨fr,(σ.set l (.cells (cs.set j (.own σ.length 0))))++[.elems sz []]⟩:=Gh.nilCellO l j sz hl hj
def brw (σ:ZE):AV->AV->Prop
 | .own l n,.arr es=>∃sz,σ[l]? =some (.elems sz es)/\es.length=n/\ZAb es
 | .ptr l off,.rptr cs off'=>off=off'/\σ[l]? =some (.cells cs)/\zS.pures cs
 | .fn f xs ys,.fn f' xs' ys'=>f=f'/\brws σ xs xs'/\brws σ ys ys'
 | .agg xs,.agg ys=>brws σ xs ys
 | .lit v,.arr es=>(v=.slice none 0 0/\es=[])∨Blk.pack [.arr es] [v]∈σ
 |x,y=>x.le y/\x.pure
where brws (σ:ZE):List AV->List AV->Prop
 | [],[]=>True
 |x::r,y::s=>brw σ x y/\brws σ r s
 |_,_=>False
def AV.lits :AV->Prop
 | .lit _=>True
 | .tup cs=>litss cs
 | .agg cs=>litss cs
 |_=>False
where litss:List AV->Prop
 | []=>True
 |x::r=>x.lits/\litss r
mutual
theorem ZFu {σ:ZE}{m:Map}{w:World}(h:Sim B m σ w):∀(x y:AV) (v:Value),Conc B (Av m) w m x v->brw σ x y->Conc B m.av w M0 y v
 |x,.arr es,v,hx,hb=>by
  cases x with
  |own l n=>
   obtain⟨sz,hl,hn,hp⟩:=hb
   have:=ZCg h hl hn hp hx
   exact(this.toM0 (by simp[zS])).weaken fun b hb=>.inr hb
  |lit u=>
   obtain rfl:=Conc.lit_inv hx
   rcases hb with⟨rfl,rfl⟩|hb
   ·exact .arrNil none 0
   ·obtain⟨l,hl⟩:=List.getElem?_of_mem hb
    have hbk:=h.blk l
    rw[hl]at hbk
    obtain⟨F,g1,_,g3⟩:=hbk
    obtain⟨u',hu,hc⟩:=g3.conc (W:=m.av) (fun b hb=>h.sep b ⟨l,by rw[g1];exact hb⟩) 0 _ rfl
    simp at hu;subst hu;exact hc
  |_=>exact((hx.toM0 hb.2).weaken fun b hb=>.inr hb).le hb.1
 |x,.rptr cs off',v,hx,hb=>by
  cases x with
  |ptr l off=>
   obtain⟨rfl,hl,hp⟩:=hb
   have hbk:=h.blk l
   rw[hl]at hbk
   obtain⟨b,ccs,ty,g1,g2,g3,g4⟩:=hbk
   have hv:v=.pointer (some ⟨b,off,none⟩):=by
    cases hx with
    |ptrOther l off v hl' hne=>exact absurd g1 (hne b)
    |ptrBox l off b' hl' hb'=>rw[g1]at hb';cases hb';rfl
   subst hv
   have hw:Wr m b:=⟨l,by rw[g1];rfl⟩
   have:=Conc.rptr (B:=B) (W:=m.av) (w:=w) (m:=M0) cs off b 0 (fun k=>ccs.getD k undef) (h.sep b hw) (h.mapOk b hw).1 (fun k x hk=>by
     obtain⟨y,hy,_⟩:=g4 k x hk
     rw[ZBL g2,Nat.zero_add]
     simp[zA,hy]) (fun k x hk=>by
     obtain⟨y,hy,hc⟩:=g4 k x hk
     have e:ccs.getD k undef=y:=by simp[zA,hy]
     rw[e]
     exact(hc.toM0 (Zw hp hk)).weaken fun b hb=>.inr hb)
   simpa using this
  |_=>exact((hx.toM0 hb.2).weaken fun b hb=>.inr hb).le hb.1
 |x,.fn f' xs' ys',v,hx,hb=>by
  cases x with
  |fn f xs ys=>
   obtain⟨rfl,h1,h2⟩:=hb
   cases hx with
   |fn _ _ _ us vs l1 l2 c1 c2=>
    obtain⟨a1,a2⟩:=ZAi h xs xs' (fun i=>us.getD i undef) c1 h1
    obtain⟨b1,b2⟩:=ZAi h ys ys' (fun i=>vs.getD i undef) c2 h2
    exact .fn f xs' ys' us vs (by omega) (by omega) a2 b2
  |_=>exact((hx.toM0 hb.2).weaken fun b hb=>.inr hb).le hb.1
 |x,.agg ys,v,hx,hb=>by
  cases x with
  |agg xs=>
   cases hx with
   |agg _ us hlen hc=>
    obtain⟨a1,a2⟩:=ZAi h xs ys (fun i=>us.getD i undef) hc hb
    exact .agg ys us (by omega) a2
  |_=>exact((hx.toM0 hb.2).weaken fun b hb=>.inr hb).le hb.1
 |x,.lit u,v,hx,hb=>by
  have hb':x.le (.lit u)/\x.pure:=by cases x<;>exact hb
  exact((hx.toM0 hb'.2).weaken fun b hb=>.inr hb).le hb'.1
 |x,.junk,v,hx,hb=>.junk v
 |x,.own l n,v,hx,hb=>by
  have hb':x.le (.own l n)/\x.pure:=by cases x<;>exact hb
  exact((hx.toM0 hb'.2).weaken fun b hb=>.inr hb).le hb'.1
 |x,.pre l n k,v,hx,hb=>by
  have hb':x.le (.pre l n k)/\x.pure:=by cases x<;>exact hb
  exact((hx.toM0 hb'.2).weaken fun b hb=>.inr hb).le hb'.1
 |x,.ptr l n,v,hx,hb=>by
  have hb':x.le (.ptr l n)/\x.pure:=by cases x<;>exact hb
  exact((hx.toM0 hb'.2).weaken fun b hb=>.inr hb).le hb'.1
 |x,.eptr l n i o,v,hx,hb=>by
  have hb':x.le (.eptr l n i o)/\x.pure:=by cases x<;>exact hb
  exact((hx.toM0 hb'.2).weaken fun b hb=>.inr hb).le hb'.1
 |x,.tup ys,v,hx,hb=>by
  have hb':x.le (.tup ys)/\x.pure:=by cases x<;>exact hb
  exact((hx.toM0 hb'.2).weaken fun b hb=>.inr hb).le hb'.1
theorem ZAi {σ:ZE}{m:Map}{w:World}(h:Sim B m σ w):∀(xs ys:List AV) (us:Nat->Value),(∀(i:Nat) (x:AV),xs[i]? =some x->Conc B (Av m) w m x (us i))->brw.brws σ xs ys->
  xs.length=ys.length/\∀(i:Nat) (y:AV),ys[i]? =some y->Conc B m.av w M0 y (us i)
 | [],[],us,_,_=>⟨rfl,fun i y hi=>by simp at hi⟩
 |x::r,y::s,us,hc,hb=>by
  obtain⟨a1,a2⟩:=ZAi h r s (fun i=>us (i+1)) (fun i z hi=>hc (i+1) z (by simpa using hi)) hb.2
  refine⟨by simp[a1],fun i z hi=> ?_⟩
  cases i with
  |zero=>simp at hi;subst hi;exact ZFu h x y (us 0) (hc 0 x (by simp)) hb.1
  |succ i=>exact a2 i z (by simpa using hi)
 | [],_::_,_,_,hb=>hb.elim
 |_::_,[],_,_,hb=>hb.elim
end
theorem Conc.lits {W:Nat->Prop}{w:World}{m:Map}{x:AV}{v:Value}(h:Conc B W w m x v):x.lits->∀(W':Nat->Prop) (m':Map),Conc B W' w m' x v:=by
 induction h with
 |lit v=>intro _ W' m';exact .lit v
 |agg cs us hlen hx2 ih=>
  intro hx W' m'
  refine .agg cs us hlen fun i x hi=>ih i x hi ?_ W' m'
  clear hlen hx2 ih
  simp only[AV.lits]at hx
  induction cs generalizing i with
  |nil=>simp at hi
  |cons c r ih=>cases i with
   |zero=>simp at hi;subst hi;exact hx.1
   |succ i=>exact ih hx.2 i (by simpa using hi)
 |tup cs us hlen hx2 ih=>
  intro hx W' m'
  refine .tup cs us hlen fun i x hi=>ih i x hi ?_ W' m'
  clear hlen hx2 ih
  simp only[AV.lits]at hx
  induction cs generalizing i with
  |nil=>simp at hi
  |cons c r ih=>cases i with
   |zero=>simp at hi;subst hi;exact hx.1
   |succ i=>exact ih hx.2 i (by simpa using hi)
 |_=>intro hx;exact hx.elim
variable {args:List AV}{K:AV->ZE->Prop}
theorem PureCall.lend {f:FuncId}{args':List AV}{r:AV}(h:PureCall P B f args' r)(hb:brw.brws σ args args')(hr:r.lits){b:Box K}(hK:K r σ):ACall P B f args σ (hold K b):=by
 refine⟨h.1,fun m w vs hs hv=> ?_⟩
 obtain⟨a1,a2⟩:=ZAi hs args args' (fun i=>vs.getD i undef) hv.2 hb
 refine(h.2.2 m.av w vs ⟨hs.avlt,hs.tb.w⟩ ⟨by rw[hv.1,a1],a2⟩).mono ?_
 rintro e w' ⟨u,rfl,hc,hbl⟩
 refine⟨u,r,σ,m,rfl,hK,hs.below hbl,?_,Fr.ofBelow hbl⟩
 exact hc.lits hr _ _
theorem ACall.frz {f:FuncId}{b:Box K}(h:ZJg σ args (hold (fun args' σ'=>ACall P B f args' σ' (hold K b)) .mk))(he:Ent P f):ACall P B f args σ (hold K b):=by
 refine⟨he,fun m w vs hs hv=> ?_⟩
 obtain⟨xs',σ',m',hk,hl,hs',hf,hc⟩:=ZCl args σ m _ hs h (fun i=>vs.getD i undef) hv.2
 refine(hk.2 m' w vs hs' ⟨by rw[hv.1,hl],hc⟩).mono ?_
 rintro e w' ⟨u,r,σ'',m'',rfl,hK,hs2,hc2,hf2⟩
 exact⟨u,r,σ'',m'',rfl,hK,hs2,hc2,hf.trans hf2 hs.mapOk⟩
end
structure Nice {α:Type}(c:α->List AV):Prop where
 cl:∀n x,zT.closeds n (c x)
 pu:∀x,zS.pures (c x)
 ok:∀σ x,Zf σ (c x)
structure NiceLen {α:Type}(c:α->List AV)(n:Nat):Prop where
 len:∀x,(c x).length=n
@[simp] theorem ZPU :Nice cI:=⟨by simp,by simp,by simp⟩
@[simp] theorem ZPR :Nice cU:=⟨by simp,by simp,by simp⟩
@[simp] theorem ZPV :Nice cB:=⟨by simp,by simp,by simp⟩
@[simp] theorem ZPS :Nice cS:=⟨by simp,by simp,by simp⟩
variable {f:α->List AV}
@[simp] theorem ZPT :Nice (cL f):=⟨by simp,by simp,by simp⟩
@[simp] theorem ZPO :NiceLen cI 1:=⟨by simp⟩
@[simp] theorem ZPL :NiceLen cU 1:=⟨by simp⟩
@[simp] theorem ZPP :NiceLen cB 1:=⟨by simp⟩
@[simp] theorem ZPM :NiceLen cS 1:=⟨by simp⟩
@[simp] theorem ZPN :NiceLen (cL f) 1:=⟨by simp⟩
section
variable {α:Type}{c:α->List AV}{n:Nat}
theorem ZFs (h:Nice c)(l:List α):ZAA n (zL c l):=by
 intro e he;obtain⟨x,_,rfl⟩:=zK.1 he;exact h.cl n x
theorem ZFr (n:Nat):ZAA n []:=by intro e he;cases he
variable {a:List AV}{l:List (List AV)}
theorem ZEx :ZAA n (a::l)↔zT.closeds n a/\ZAA n l:=by simp[ZAA]
variable {k:List (List AV)}
theorem ZDg :ZAA n (k++l)↔ZAA n k/\ZAA n l:=by
 constructor
 ·intro h;exact⟨fun e he=>h e (zG _ he),fun e he=>h e (zF _ he)⟩
 ·rintro⟨h1,h2⟩ e he;rcases zJ.1 he with he|he
  ·exact h1 e he
  ·exact h2 e he
variable {i:Nat}
theorem ZFq (h:ZAA n l)(h':zT.closeds n a):ZAA n (l.set i a):=by
 intro e he;rcases zC he with he|rfl
 ·exact h e he
 ·exact h'
theorem ZCT {k:Nat}(h':zT.closeds n a):ZAA n (zH k a):=by
 intro e he;rw[zE he];exact h'
attribute [simp] ZFs ZFr ZEx ZDg ZFq ZCT
theorem ZHz (h:Nice c)(l:List α):ZAb (zL c l):=by
 intro e he;obtain⟨x,_,rfl⟩:=zK.1 he;exact h.pu x
theorem ZHy :ZAb []:=by intro e he;cases he
theorem ZGP :ZAb (a::l)↔zS.pures a/\ZAb l:=by simp[ZAb]
theorem ZEg :ZAb (k++l)↔ZAb k/\ZAb l:=by
 constructor
 ·intro h;exact⟨fun e he=>h e (zG _ he),fun e he=>h e (zF _ he)⟩
 ·rintro⟨h1,h2⟩ e he;rcases zJ.1 he with he|he
  ·exact h1 e he
  ·exact h2 e he
theorem ZHx (h:ZAb l)(h':zS.pures a):ZAb (l.set i a):=by
 intro e he;rcases zC he with he|rfl
 ·exact h e he
 ·exact h'
theorem ZC4 {k:Nat}(h':zS.pures a):ZAb (zH k a):=by
 intro e he;rw[zE he];exact h'
attribute [simp] ZHz ZHy ZGP ZEg ZHx ZC4
variable {σ:ZE}
theorem ZJL (h:Nice c)(l:List α):ZC5 σ (zL c l):=by
 intro e he;obtain⟨x,_,rfl⟩:=zK.1 he;exact h.ok σ x
theorem ZJK (σ:ZE):ZC5 σ []:=by intro e he;cases he
theorem ZH3 :ZC5 σ (a::l)↔Zf σ a/\ZC5 σ l:=by simp[ZC5]
theorem ZFK :ZC5 σ (k++l)↔ZC5 σ k/\ZC5 σ l:=by
 constructor
 ·intro h;exact⟨fun e he=>h e (zG _ he),fun e he=>h e (zF _ he)⟩
 ·rintro⟨h1,h2⟩ e he;rcases zJ.1 he with he|he
  ·exact h1 e he
  ·exact h2 e he
theorem ZJJ (h:ZC5 σ l)(h':Zf σ a):ZC5 σ (l.set i a):=by
 intro e he;rcases zC he with he|rfl
 ·exact h e he
 ·exact h'
theorem ZDR {k:Nat}(h':Zf σ a):ZC5 σ (zH k a):=by
 intro e he;rw[zE he];exact h'
attribute [simp] ZJL ZJK ZH3 ZFK ZJJ ZDR
theorem ZKf (h:NiceLen c n)(l:List α):ZH6 n (zL c l):=by
 intro e he;obtain⟨x,_,rfl⟩:=zK.1 he;exact h.len x
theorem ZKe (n:Nat):ZH6 n []:=by intro e he;cases he
theorem ZJR :ZH6 n (a::l)↔a.length=n/\ZH6 n l:=by simp[ZH6]
theorem ZGY :ZH6 n (k++l)↔ZH6 n k/\ZH6 n l:=by
 constructor
 ·intro h;exact⟨fun e he=>h e (zG _ he),fun e he=>h e (zF _ he)⟩
 ·rintro⟨h1,h2⟩ e he;rcases zJ.1 he with he|he
  ·exact h1 e he
  ·exact h2 e he
theorem ZKd (h:ZH6 n l)(h':a.length=n):ZH6 n (l.set i a):=by
 intro e he;rcases zC he with he|rfl
 ·exact h e he
 ·exact h'
theorem ZD1 {k:Nat}(h':a.length=n):ZH6 n (zH k a):=by
 intro e he;rw[zE he];exact h'
attribute [simp] ZKf ZKe ZJR ZGY ZKd ZD1
end
@[simp] theorem ZQp (a b:Int):(a==b)=decide (a=b):=by by_cases h:a=b<;>simp[h]
@[simp] theorem ZQo (a b:List UInt8):(a==b)=decide (a=b):=by by_cases h:a=b<;>simp[h]
@[simp] theorem ZQJ (a b:Bool):(a==b)=decide (a=b):=by cases a<;>cases b<;>rfl
@[simp] theorem ZO3 :(⟨#[]⟩:ByteArray)=ByteArray.empty:=rfl
@[simp] theorem ZO8 (xs:List Int):u8s (zL cU xs)=some xs:=by
 induction xs with
 |nil=>rfl
 |cons a r ih=>simp[u8s,ZOu,ih]
attribute [simp ↓] List.getElem?_map
attribute [simp] brw brw.brws AV.lits AV.lits.litss Lo.post
theorem ZHP {l:List α}{i:Nat}(h:i<l.length):¬l=[]:=fun e=>by subst e;simp at h
theorem cg {q:Prop}{b:Box q}(h':q)(h:p:=by first|omega|assumption|exact ZHP (by assumption)|rfl|(simp;done)|(simp;omega)|(simp[*];done)|(simp_all;done)|(simp_all;omega)):chk p (hold q b):=⟨h,h'⟩
variable {d:Decidable p}
theorem abr.sp {c y n:Prop}{b:Box y}{b':Box n}{x' r:α}(h:c->p->x=r->y)(h':¬c->¬p->x'=r->n)(e:c->p:=by first|exact id|(intro h;omega)|(simp;done)|(intro h;simpa using h)|(intro h;simp at h ⊢;omega)|(intro h;simp_all))(e':¬c->¬p:=by first|exact id|(intro h;omega)|(simp;done)|(intro h;simpa using h)|(intro h;simp at h ⊢;omega)|(intro h;simp_all))(hF:@ite α p d x x'=r):abr c (hold y b) (hold n b'):=
 ⟨fun k=>h k (e k) (by rw[iP (e k)]at hF;exact hF),fun k=>h' k (e' k) (by rw[iN (e' k)]at hF;exact hF)⟩
theorem abr.ns {c y n:Prop}{b:Box y}{b':Box n}{x' r:α}(h:c->¬p->x'=r->y)(h':¬c->p->x=r->n)(e:c->¬p:=by first|exact id|(intro h;omega)|(simp;done)|(intro h;simpa using h)|(intro h;simp at h ⊢;omega)|(intro h;simp_all))(e':¬c->p:=by first|exact id|(intro h;omega)|(simp;done)|(intro h;simpa using h)|(intro h;simp at h ⊢;omega)|(intro h;simp_all))(hF:@ite α p d x x'=r):abr c (hold y b) (hold n b'):=
 ⟨fun k=>h k (e k) (by rw[iN (e k)]at hF;exact hF),fun k=>h' k (e' k) (by rw[iP (e' k)]at hF;exact hF)⟩
theorem auz {q:Prop}(g:q:=by first|omega|simp_all):q:=g
theorem Gh.to3 {B nb N:Nat}{fr fr':Frm}{σ s:ZE}(hn:nb<=s.length)(h:ZGD σ s/\Zu s.length s/\ZKw s.length fr fr'):Gh B nb N ⟨fr,σ⟩ ⟨fr',s⟩:=Gh.to hn h.1 h.2.1 h.2.2
end Go.Vl
