/- The value-level layer, part 22: a law that returns true and turns nothing, as its row asks. -/
import Derived.Test.YtbibfeagkocjlaaVlOpen
set_option linter.all false
namespace Go.Vl
open Go Go.RowKit Go.ChangeShapes Go.WideShapes
def ZBT (P:Program)(t:TypeId)(x:AV):Prop:=
  match P.underlying t with
  |some (.struct _)=>∃n as,x=.agg as∧ZAR P n t as
  |_=>∃n,ZAR P n t [x]
def ZBM (P:Program):List TypeId→List AV→Prop
  | [],xs=>xs=[]
  |t::ts,xs=>∃x r,xs=x::r∧ZBT P t x∧ZBM P ts r
def ZMO (P:Program)(L:List TypeId)(t:TypeId):Bool:=P.readableRec t&& decide (t<P.types.size)&& L.contains t&& match P.underlying t with
  |some .bool|some (.int _)|some .string|some (.slice _)|some (.pointer _)|some (.struct _)=>true
  |_=>false
section
variable {H : Type} {enc : TypeId × Value → H} {P : Program}
theorem ZJi {v:Value}{x:AV}{w:World}{as:List AV}(hv:v.cells=#[v])(h:Rl w as v.cells.toList)(has:as=[x]):Conc BIG (fun _=>False) w M0 x v:=by
  subst has
  rw[hv]at h
  simpa using h.2 0 x rfl
theorem ZJg {L : List TypeId} (hty : tyB P L = true) {w : World} {spare : Nat → Bool} {held : Bool} {t : TypeId} {v : Value} {d : DataW H} {ps : List MemPlace} {base : Nat} (ht : ZMO P L t = true)
    (hval:Value.okWide P w .any base t v) (h:DataW.Trod enc P w 0 spare held t v d ps):∃x,Conc BIG (fun _=>False) w M0 x v∧ZBT P t x:=by
  obtain⟨fuel,h⟩:=h
  simp only[ZMO,Bool.and_eq_true,decide_eq_true_eq]at ht
  obtain⟨⟨⟨_,_⟩,hlt⟩,hk⟩:=ht
  obtain⟨as,hr,hta⟩:=ZD9 hty fuel t _ _ hlt h
  have one:(hv:v.cells=#[v])→(∃x,as=[x])→(∀fs,P.underlying t≠some (.struct fs))→∃x,Conc BIG (fun _=>False) w M0 x v∧ZBT P t x:=by
    rintro hv ⟨x,rfl⟩ hns
    refine⟨x,ZJi hv hr rfl,?_⟩
    unfold ZBT
    split
    · next fs hu=>exact absurd hu (hns fs)
    · exact⟨fuel,hta⟩
  have ZMM:∀hv:v.cells=#[v],∃x,as=[x]:=by
    intro hv
    have:=hr.1
    rw[hv]at this
    exact List.length_eq_one_iff.1 (by simpa using this)
  cases hu:P.underlying t with
  |none=>rw[hu]at hk;cases hk
  |some dsc=>
    cases dsc with
    |bool=>obtain⟨b,rfl⟩:=okWide_bool hu hval;exact one rfl (ZMM rfl) (by simp[hu])
    |int k=>obtain⟨b,rfl⟩:=okWide_int hu hval;exact one rfl (ZMM rfl) (by simp[hu])
    |string=>obtain⟨b,rfl⟩:=okWide_string hu hval;exact one rfl (ZMM rfl) (by simp[hu])
    |slice e=>obtain⟨_,_,_,rfl⟩:=okWide_slice hu hval;exact one rfl (ZMM rfl) (by simp[hu])
    |pointer e=>obtain⟨_,rfl⟩:=okWide_pointer hu hval;exact one rfl (ZMM rfl) (by simp[hu])
    |struct fs=>
      obtain⟨cs,rfl,hsz⟩:=okWide_struct hu hval
      refine⟨.agg as,.agg as cs (by have:=hr.1;simpa[Value.cells]using this.symm) (fun i x hx=> ?_),?_⟩
      · have:=hr.2 i x hx
        simpa[Value.cells,Array.getD_eq_getD_getElem?,List.getD_eq_getElem?_getD]using this
      · unfold ZBT;rw[hu];exact⟨fuel,as,rfl,hta⟩
    |_=>rw[hu]at hk;cases hk
theorem ZEk {L:List TypeId}(hty:tyB P L=true){w:World}{spare:Nat→Bool}{held:Bool}{base:Nat}:∀(ts:List TypeId) (vs:List Value) (ds:List (DataW H)) (ps:List MemPlace),
    (∀t,t∈ts→ZMO P L t=true)→(∀(j:Nat) t v,ts[j]? =some t→vs[j]? =some v→Value.okWide P w .any base t v)→DataW.TrodAll enc P w 0 spare held ts vs ds ps→
    ∃xs:List AV,vs.length=xs.length∧(∀(i:Nat) (x:AV),xs[i]? =some x→Conc BIG (fun _=>False) w M0 x (vs.getD i undef))∧ZBM P ts xs∧ds.length=ts.length
  | [],vs,ds,ps,_,_,h=>by
    cases vs<;>cases ds<;>simp[DataW.TrodAll]at h
    exact⟨[],rfl,fun i x hi=>by simp at hi,rfl,rfl⟩
  |t::ts,vs,ds,ps,ht,hval,h=>by
    cases vs with
    |nil=>simp[DataW.TrodAll]at h
    |cons v vs=>
      cases ds with
      |nil=>simp[DataW.TrodAll]at h
      |cons d ds=>
        simp only[DataW.TrodAll]at h
        obtain⟨p,q,h1,h2,_⟩:=h
        obtain⟨x,hx,htx⟩:=ZJg hty (ht t (by simp)) (hval 0 t v rfl rfl) h1
        obtain⟨xs,hl,hc,hta,hdl⟩:=ZEk hty ts vs ds q (fun t h=>ht t (by simp[h])) (fun j t v h3 h4=>hval (j+1) t v (by simpa using h3) (by simpa using h4)) h2
        refine⟨x::xs,by simp[hl],fun i y hi=> ?_,⟨x,xs,rfl,htx,hta⟩,by simp[hdl]⟩
        cases i with
        |zero=>simp at hi;subst hi;exact hx
        |succ i=>exact hc i y (by simpa using hi)
theorem ZB9 {L : List TypeId} (hl : laidOutB P = true) {W W' : World} (hb : Below W.heap.size W W') : ∀ {ts : List TypeId} {vs : List Value} {ds : List (DataW H)} {ps : List MemPlace}, (∀ t, t ∈ ts → ZMO P L t = true) →
    DataW.TrodAll enc P W 0 (fun _=>true) true ts vs ds ps→(∀x,x∈ps→x.block<W.heap.size)→DataW.TrodAll enc P W' 0 (fun b=>decide (b<W.heap.size)) true ts vs ds ps
  | [],vs,ds,ps,_,h,_=>by
    cases vs<;>cases ds<;>simp[DataW.TrodAll]at h ⊢
    exact h
  |t::ts,vs,ds,ps,ht,h,hlt=>by
    cases vs with
    |nil=>simp[DataW.TrodAll]at h
    |cons v vs=>
      cases ds with
      |nil=>simp[DataW.TrodAll]at h
      |cons d ds=>
        simp only[DataW.TrodAll]at h ⊢
        obtain⟨p,q,h1,h2,rfl⟩:=h
        have hk:=ht t (by simp)
        simp only[ZMO,Bool.and_eq_true,decide_eq_true_eq]at hk
        exact⟨p,q,Below.trod hl hk.1.1.1 hk.1.1.2 h1 hb (fun x hx=>hlt x (by simp[hx])),ZB9 hl hb (fun t h=>ht t (by simp[h])) h2 (fun x hx=>hlt x (by simp[hx])),rfl⟩
theorem law_any {f : FuncId} {fn : Func} {s : ChangeSpec} {tb : TypeId} (hlaid : laidOutB P = true) {L : List TypeId} (hty : tyB P L = true)
    (hts:∀t,t∈fn.params.toList→ZMO P L t=true) (hres:fn.resultTypes=#[tb]) (htb:P.underlying tb=some .bool) (hv:s.vars=[])
    (hs:∀(ds:List (DataW H)),ds.length=fn.params.toList.length→s.fn H ds={results:=[.lit (.bool true)],args:=ds})
    (hcall:∀xs,ZBM P fn.params.toList xs→PureCall P BIG f xs (.lit (.bool true)))
    {W:World} {base:Nat} {args:Array Value} {ds gs:List (DataW H)} {before:List MemPlace} {apart fresh handsOn:Bool}
    (hval:∀(j:Nat) t v,fn.params[j]? =some t→args[j]? =some v→Value.okWide P W .any base t v)
    (hW:DataW.Whole enc P fn.params.toList s.vars apart W args.toList ds gs before):
    Calls P f args W fun e W'=>∃v,e=.returned v∧s.post enc P fn apart fresh handsOn false W args v W':=by
  have hW':=hW
  obtain⟨p,q,hA,hV,rfl,hfz,hnd⟩:=hW
  rw[hv]at hV
  obtain⟨rfl,rfl⟩:=trodVars_none hV
  obtain⟨xs,hl,hc,hta,hdl⟩:=ZEk hty fn.params.toList args.toList ds p hts (fun j t v h1 h2=>hval j t v (by simpa using h1) (by simpa using h2)) hA
  obtain⟨_,_,hrun⟩:=hcall xs hta
  refine(hrun (fun _=>False) W args ⟨fun b hb=>hb.elim,fun g hg=>by simp[ZMR,BIG]at hg⟩ ⟨by simpa using hl,fun i x hi=> ?_⟩).mono ?_
  · have:=hc i x hi
    simpa[Array.getD_eq_getD_getElem?,List.getD_eq_getElem?_getD]using this
  rintro e W' ⟨u,rfl,hu,hb⟩
  have hu:=Conc.lit_inv hu
  subst hu
  have hlt:∀x,x∈p→x.block<W.heap.size:=fun x hx=>by simpa using hW'.lt x (by simpa using hx)
  have hargs:=ZB9 hlaid hb hts hA hlt
  refine⟨_,rfl,?_⟩
  have hsp:s.fn H (ds++[])={results:=[.lit (.bool true)],args:=ds}:=by rw[List.append_nil];exact hs ds hdl
  refine⟨ds,[],p++[],[],p,[],hW',?_,?_,?_,hb.frame _,fun h=>by cases h⟩
  · rw[hsp,hres];exact trodAll_mk1 (shut_bool htb true)
  · rw[hsp];exact hargs
  · rw[hv,hsp];exact rfl
end
end Go.Vl
