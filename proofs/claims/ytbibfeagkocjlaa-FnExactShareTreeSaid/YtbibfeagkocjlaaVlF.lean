/- The value-level layer, part 24: what the printed functions and their contracts use. -/
import Derived.Test.YtbibfeagkocjlaaVlLaw
import Derived.Test.YtbibfeagkocjlaaVlDv
set_option linter.all false
namespace Go.Vl
open Go Go.RowKit
theorem ZJC (a b:ByteArray):(a==b)=decide (a=b):=by
  obtain⟨a⟩:=a
  obtain⟨b⟩:=b
  show(a==b)=_
  by_cases h:a=b
  · subst h;simp
  · simp[h]
inductive Lo (R S:Type)
  |ret (r:R)
  |go (s:S)
def Lo.post {R S:Type}(o:Lo R S)(f:R→Prop)(g:S→Prop):Prop:=
  match o with
  | .ret r=>f r
  | .go s=>g s
abbrev LIM :Nat:=67108864
def at? {α:Type}(xs:List α)(i:Int):Option α:=if 0≤i then xs[i.toNat]? else none
theorem ZD {α:Type}{xs:List α}{i:Nat}{x:α}(h:xs[i]? =some x):i<xs.length:=(List.getElem?_eq_some_iff.1 h).1
theorem ob {α β:Type}{x:Option α}{f:α→Option β}{r:β}(h:(x>>=f)=some r):∃a,x=some a∧f a=some r:=by
  cases x with
  |none=>cases h
  |some a=>exact⟨a,rfl,h⟩
theorem oc {β:Type}{p:Prop}[Decidable p]{x:Option β}{r:β}(h:(if p then x else none)=some r):p∧x=some r:=by
  split at h
  · exact⟨by assumption,h⟩
  · cases h
def ZL (f:Func):Code:=f.body.getD .skip
def ZAC :List Nat→Code→Option Code
  | [],c=>some c
  |0::p,.seq a _=>ZAC p a
  |_::p,.seq _ b=>ZAC p b
  |0::p,.cond _ a _=>ZAC p a
  |_::p,.cond _ _ b=>ZAC p b
  |_::p,.block _ c=>ZAC p c
  |_::p,.loop c=>ZAC p c
  |_,_=>none
theorem ZS {p:List Nat}{b c c':Code}(h:ZAC p b=some c)(h':ZAC p b=some c'):c=c':=Option.some.inj (h.symm.trans h')
def cI (x:Int):List AV:=[.lit (.int .i64 x)]
def cU (x:Int):List AV:=[.lit (.int .u8 x)]
def cB (x:Bool):List AV:=[.lit (.bool x)]
def cS (x:ByteArray):List AV:=[.lit (.string x)]
def cL {α:Type}(f:α→List AV)(xs:List α):List AV:=[.arr (xs.map f)]
@[simp] theorem ZPB (x:Int):cI x=[.lit (.int .i64 x)]:=rfl
@[simp] theorem ZO8 (x:Int):cU x=[.lit (.int .u8 x)]:=rfl
@[simp] theorem ZPC (x:Bool):cB x=[.lit (.bool x)]:=rfl
@[simp] theorem ZO9 (x:ByteArray):cS x=[.lit (.string x)]:=rfl
@[simp] theorem ZPA {α:Type}(f:α→List AV)(xs:List α):cL f xs=[.arr (xs.map f)]:=rfl
section
variable {P : Program} {B nb N : Nat}
theorem Gh.nilCellO {ot oe : Option TypeId} {fr : Frm} {σ : ZA} (l j sz : Nat) {cs : List AV} (hl : σ[l]? = some (.tcells ot cs)) (hj : cs[j]? = some (.lit (.slice none 0 0))) :
    Gh B nb N ⟨fr,σ⟩ ⟨fr,(σ.set l (.tcells ot (cs.set j (.own σ.length 0))))++[.telems oe sz []]⟩:=by
  intro m0 w0 m a w h
  have hfr:Fr m w (m.push .nil) w:=Fr.push h.sim _ (Nat.le_refl _) (fun _ _=>rfl) (fun b hb=>by simp[MS.has]at hb) rfl rfl rfl
  have hs:=h.sim.push .nil (.telems oe sz []) hfr (fun _ _=>rfl) (fun b hb=>by simp[MS.has]at hb) ⟨by simp,by simp,.inl ⟨rfl,rfl⟩⟩
  have hll:l<σ.length:=(List.getElem?_eq_some_iff.1 hl).1
  have hn:m.n=σ.length:=h.sim.n
  refine⟨m.push .nil,⟨by simpa using hs.n,fun k=> ?_,hs.inj,hs.sep,hs.avlt,hs.tb⟩,⟨h.fr.1,fun i=>(h.fr.2 i).mono hfr⟩,h.df,h.step.trans hfr h.ok,h.base,h.ok⟩
  by_cases e:k=l
  · subst e
    have hb:=hs.blk k
    rw[List.getElem?_append_left hll,hl]at hb
    rw[List.getElem?_append_left (by simpa using hll),List.getElem?_set_self (by simpa using hll)]
    obtain⟨b,ccs,ty,g1,g2,g3,g4⟩:=hb
    refine⟨b,ccs,ty,g1,g2,by simpa using g3,fun i x hi=> ?_⟩
    by_cases ej:j=i
    · subst ej
      rw[List.getElem?_set_self (List.getElem?_eq_some_iff.1 hj).1]at hi
      obtain rfl:=Option.some.inj hi
      obtain⟨y,hy,hc⟩:=g4 j _ hj
      refine⟨y,hy,?_⟩
      rw[Conc.lit_inv hc,←hn]
      exact .ownNil m.n none (by simp[Map.push]) (Map.push_new _ _)
    · rw[List.getElem?_set_ne ej]at hi
      exact g4 i x hi
  · have hb:=hs.blk k
    have:((σ.set l (.tcells ot (cs.set j (.own σ.length 0))))++[.telems oe sz []])[k]? =(σ++[Blk.telems oe sz []])[k]? :=by
      by_cases hk:k<σ.length
      · rw[List.getElem?_append_left (by simpa using hk),List.getElem?_append_left hk,List.getElem?_set_ne (Ne.symm e)]
      · rw[List.getElem?_append_right (by simpa using hk),List.getElem?_append_right (by omega)];simp
    rw[this];exact hb
theorem Gh.nilCell {fr : Frm} {σ : ZA} (l j sz : Nat) {cs : List AV} (hl : σ[l]? = some (.cells cs)) (hj : cs[j]? = some (.lit (.slice none 0 0))) :
    Gh B nb N ⟨fr,σ⟩ ⟨fr,(σ.set l (.cells (cs.set j (.own σ.length 0))))++[.elems sz []]⟩:=Gh.nilCellO l j sz hl hj
def brw (σ:ZA):AV→AV→Prop
  | .own l n,.arr es=>∃sz,σ[l]? =some (.elems sz es)∧es.length=n∧ZZ es
  | .ptr l off,.rptr cs off'=>off=off'∧σ[l]? =some (.cells cs)∧AV.pure.pures cs
  | .fn f xs ys,.fn f' xs' ys'=>f=f'∧brws σ xs xs'∧brws σ ys ys'
  | .agg xs,.agg ys=>brws σ xs ys
  | .lit v,.arr es=>(v=.slice none 0 0∧es=[])∨Blk.pack [.arr es] [v]∈σ
  |x,y=>x.le y∧x.pure
where brws (σ:ZA):List AV→List AV→Prop
  | [],[]=>True
  |x::r,y::s=>brw σ x y∧brws σ r s
  |_,_=>False
def AV.lits :AV→Prop
  | .lit _=>True
  | .tup cs=>litss cs
  | .agg cs=>litss cs
  |_=>False
where litss:List AV→Prop
  | []=>True
  |x::r=>x.lits∧litss r
mutual
theorem ZFD {σ:ZA}{m:Map}{w:World}(h:Sim B m σ w):∀(x y:AV) (v:Value),Conc B (Av m) w m x v→brw σ x y→Conc B m.av w M0 y v
  |x,.arr es,v,hx,hb=>by
    cases x with
    |own l n=>
      obtain⟨sz,hl,hn,hp⟩:=hb
      have:=ZCJ h hl hn hp hx
      exact(this.toM0 (by simp[AV.pure])).weaken fun b hb=>.inr hb
    |lit u=>
      obtain rfl:=Conc.lit_inv hx
      rcases hb with⟨rfl,rfl⟩|hb
      · exact .arrNil none 0
      · obtain⟨l,hl⟩:=List.getElem?_of_mem hb
        have hbk:=h.blk l
        rw[hl]at hbk
        obtain⟨F,g1,_,g3⟩:=hbk
        obtain⟨u',hu,hc⟩:=g3.conc (W:=m.av) (fun b hb=>h.sep b ⟨l,by rw[g1];exact hb⟩) 0 _ rfl
        simp at hu;subst hu;exact hc
    |_=>exact((hx.toM0 hb.2).weaken fun b hb=>.inr hb).le hb.1
  |x,.rptr cs off',v,hx,hb=>by
    cases x with
    |ptr l off=>
      obtain⟨rfl,hl,hp⟩:=hb
      have hbk:=h.blk l
      rw[hl]at hbk
      obtain⟨b,ccs,ty,g1,g2,g3,g4⟩:=hbk
      have hv:v=.pointer (some ⟨b,off,none⟩):=by
        cases hx with
        |ptrOther l off v hl' hne=>exact absurd g1 (hne b)
        |ptrBox l off b' hl' hb'=>rw[g1]at hb';cases hb';rfl
      subst hv
      have hw:Wr m b:=⟨l,by rw[g1];rfl⟩
      have:=Conc.rptr (B:=B) (W:=m.av) (w:=w) (m:=M0) cs off b 0 (fun k=>ccs.getD k undef) (h.sep b hw) (h.mapOk b hw).1 (fun k x hk=>by
          obtain⟨y,hy,_⟩:=g4 k x hk
          rw[ZA3 g2,Nat.zero_add]
          simp[Array.getD_eq_getD_getElem?,hy]) (fun k x hk=>by
          obtain⟨y,hy,hc⟩:=g4 k x hk
          have e:ccs.getD k undef=y:=by simp[Array.getD_eq_getD_getElem?,hy]
          rw[e]
          exact(hc.toM0 (Zk hp hk)).weaken fun b hb=>.inr hb)
      simpa using this
    |_=>exact((hx.toM0 hb.2).weaken fun b hb=>.inr hb).le hb.1
  |x,.fn f' xs' ys',v,hx,hb=>by
    cases x with
    |fn f xs ys=>
      obtain⟨rfl,h1,h2⟩:=hb
      cases hx with
      |fn _ _ _ us vs l1 l2 c1 c2=>
        obtain⟨a1,a2⟩:=ZAT h xs xs' (fun i=>us.getD i undef) c1 h1
        obtain⟨b1,b2⟩:=ZAT h ys ys' (fun i=>vs.getD i undef) c2 h2
        exact .fn f xs' ys' us vs (by omega) (by omega) a2 b2
    |_=>exact((hx.toM0 hb.2).weaken fun b hb=>.inr hb).le hb.1
  |x,.agg ys,v,hx,hb=>by
    cases x with
    |agg xs=>
      cases hx with
      |agg _ us hlen hc=>
        obtain⟨a1,a2⟩:=ZAT h xs ys (fun i=>us.getD i undef) hc hb
        exact .agg ys us (by omega) a2
    |_=>exact((hx.toM0 hb.2).weaken fun b hb=>.inr hb).le hb.1
  |x,.lit u,v,hx,hb=>by
    have hb':x.le (.lit u)∧x.pure:=by cases x<;>exact hb
    exact((hx.toM0 hb'.2).weaken fun b hb=>.inr hb).le hb'.1
  |x,.junk,v,hx,hb=>.junk v
  |x,.own l n,v,hx,hb=>by
    have hb':x.le (.own l n)∧x.pure:=by cases x<;>exact hb
    exact((hx.toM0 hb'.2).weaken fun b hb=>.inr hb).le hb'.1
  |x,.pre l n k,v,hx,hb=>by
    have hb':x.le (.pre l n k)∧x.pure:=by cases x<;>exact hb
    exact((hx.toM0 hb'.2).weaken fun b hb=>.inr hb).le hb'.1
  |x,.ptr l n,v,hx,hb=>by
    have hb':x.le (.ptr l n)∧x.pure:=by cases x<;>exact hb
    exact((hx.toM0 hb'.2).weaken fun b hb=>.inr hb).le hb'.1
  |x,.eptr l n i o,v,hx,hb=>by
    have hb':x.le (.eptr l n i o)∧x.pure:=by cases x<;>exact hb
    exact((hx.toM0 hb'.2).weaken fun b hb=>.inr hb).le hb'.1
  |x,.tup ys,v,hx,hb=>by
    have hb':x.le (.tup ys)∧x.pure:=by cases x<;>exact hb
    exact((hx.toM0 hb'.2).weaken fun b hb=>.inr hb).le hb'.1
theorem ZAT {σ : ZA} {m : Map} {w : World} (h : Sim B m σ w) : ∀ (xs ys : List AV) (us : Nat → Value), (∀ (i : Nat) (x : AV), xs[i]? = some x → Conc B (Av m) w m x (us i)) → brw.brws σ xs ys →
    xs.length=ys.length∧∀(i:Nat) (y:AV),ys[i]? =some y→Conc B m.av w M0 y (us i)
  | [],[],us,_,_=>⟨rfl,fun i y hi=>by simp at hi⟩
  |x::r,y::s,us,hc,hb=>by
    obtain⟨a1,a2⟩:=ZAT h r s (fun i=>us (i+1)) (fun i z hi=>hc (i+1) z (by simpa using hi)) hb.2
    refine⟨by simp[a1],fun i z hi=> ?_⟩
    cases i with
    |zero=>simp at hi;subst hi;exact ZFD h x y (us 0) (hc 0 x (by simp)) hb.1
    |succ i=>exact a2 i z (by simpa using hi)
  | [],_::_,_,_,hb=>hb.elim
  |_::_,[],_,_,hb=>hb.elim
end
theorem Conc.lits {W:Nat→Prop}{w:World}{m:Map}{x:AV}{v:Value}(h:Conc B W w m x v):x.lits→∀(W':Nat→Prop) (m':Map),Conc B W' w m' x v:=by
  induction h with
  |lit v=>intro _ W' m';exact .lit v
  |agg cs us hlen hx2 ih=>
    intro hx W' m'
    refine .agg cs us hlen fun i x hi=>ih i x hi ?_ W' m'
    clear hlen hx2 ih
    simp only[AV.lits]at hx
    induction cs generalizing i with
    |nil=>simp at hi
    |cons c r ih=>cases i with
      |zero=>simp at hi;subst hi;exact hx.1
      |succ i=>exact ih hx.2 i (by simpa using hi)
  |tup cs us hlen hx2 ih=>
    intro hx W' m'
    refine .tup cs us hlen fun i x hi=>ih i x hi ?_ W' m'
    clear hlen hx2 ih
    simp only[AV.lits]at hx
    induction cs generalizing i with
    |nil=>simp at hi
    |cons c r ih=>cases i with
      |zero=>simp at hi;subst hi;exact hx.1
      |succ i=>exact ih hx.2 i (by simpa using hi)
  |_=>intro hx;exact hx.elim
theorem PureCall.lend {f:FuncId}{args args':List AV}{r:AV}(h:PureCall P B f args' r){σ:ZA}(hb:brw.brws σ args args')(hr:r.lits){K:AV→ZA→Prop}{b:Box K}(hK:K r σ):ACall P B f args σ (hold K b):=by
  refine⟨h.1,fun m w vs hs hv=> ?_⟩
  obtain⟨a1,a2⟩:=ZAT hs args args' (fun i=>vs.getD i undef) hv.2 hb
  refine(h.2.2 m.av w vs ⟨hs.avlt,hs.tb.w⟩ ⟨by rw[hv.1,a1],a2⟩).mono ?_
  rintro e w' ⟨u,rfl,hc,hbl⟩
  refine⟨u,r,σ,m,rfl,hK,hs.below hbl,?_,Fr.ofBelow hbl⟩
  exact hc.lits hr _ _
theorem ACall.frz {f:FuncId}{args:List AV}{σ:ZA}{K:AV→ZA→Prop}{b:Box K}(h:ZIw σ args (hold (fun args' σ'=>ACall P B f args' σ' (hold K b)) .mk))(he:Ent P f):ACall P B f args σ (hold K b):=by
  refine⟨he,fun m w vs hs hv=> ?_⟩
  obtain⟨xs',σ',m',hk,hl,hs',hf,hc⟩:=ZCO args σ m _ hs h (fun i=>vs.getD i undef) hv.2
  refine(hk.2 m' w vs hs' ⟨by rw[hv.1,hl],hc⟩).mono ?_
  rintro e w' ⟨u,r,σ'',m'',rfl,hK,hs2,hc2,hf2⟩
  exact⟨u,r,σ'',m'',rfl,hK,hs2,hc2,hf.trans hf2 hs.mapOk⟩
end
structure Nice {α:Type}(c:α→List AV):Prop where
  cl:∀n x,AV.closed.closeds n (c x)
  pu:∀x,AV.pure.pures (c x)
  ok:∀σ x,Ze σ (c x)
structure NiceLen {α:Type}(c:α→List AV)(n:Nat):Prop where
  len:∀x,(c x).length=n
@[simp] theorem ZOa :Nice cI:=⟨by simp,by simp,by simp⟩
@[simp] theorem ZOX :Nice cU:=⟨by simp,by simp,by simp⟩
@[simp] theorem ZOb :Nice cB:=⟨by simp,by simp,by simp⟩
@[simp] theorem ZOY :Nice cS:=⟨by simp,by simp,by simp⟩
@[simp] theorem ZOZ {α:Type}{f:α→List AV}:Nice (cL f):=⟨by simp,by simp,by simp⟩
@[simp] theorem ZOU :NiceLen cI 1:=⟨by simp⟩
@[simp] theorem ZOR :NiceLen cU 1:=⟨by simp⟩
@[simp] theorem ZOV :NiceLen cB 1:=⟨by simp⟩
@[simp] theorem ZOS :NiceLen cS 1:=⟨by simp⟩
@[simp] theorem ZOT {α:Type}{f:α→List AV}:NiceLen (cL f) 1:=⟨by simp⟩
section
theorem ZFB {α:Type}{c:α→List AV}{n:Nat}(h:Nice c)(l:List α):ZT n (List.map c l):=by
  intro e he;obtain⟨x,_,rfl⟩:=List.mem_map.1 he;exact h.cl n x
theorem ZFA (n:Nat):ZT n []:=by intro e he;cases he
theorem ZEM {n:Nat}{a:List AV}{l:List (List AV)}:ZT n (a::l)↔AV.closed.closeds n a∧ZT n l:=by simp[ZT]
theorem ZC8 {n:Nat}{k l:List (List AV)}:ZT n (k++l)↔ZT n k∧ZT n l:=by
  constructor
  · intro h;exact⟨fun e he=>h e (List.mem_append_left _ he),fun e he=>h e (List.mem_append_right _ he)⟩
  · rintro⟨h1,h2⟩ e he;rcases List.mem_append.1 he with he|he
    · exact h1 e he
    · exact h2 e he
theorem ZE9 {n:Nat}{a:List AV}{l:List (List AV)}{i:Nat}(h:ZT n l)(h':AV.closed.closeds n a):ZT n (l.set i a):=by
  intro e he;rcases List.mem_or_eq_of_mem_set he with he|rfl
  · exact h e he
  · exact h'
theorem ZB8 {n:Nat}{a:List AV}{k:Nat}(h':AV.closed.closeds n a):ZT n (List.replicate k a):=by
  intro e he;rw[List.eq_of_mem_replicate he];exact h'
attribute [simp] ZFB ZFA ZEM ZC8 ZE9 ZB8
theorem ZHI {α:Type}{c:α→List AV}(h:Nice c)(l:List α):ZZ (List.map c l):=by
  intro e he;obtain⟨x,_,rfl⟩:=List.mem_map.1 he;exact h.pu x
theorem ZHH :ZZ []:=by intro e he;cases he
theorem ZFg {a:List AV}{l:List (List AV)}:ZZ (a::l)↔AV.pure.pures a∧ZZ l:=by simp[ZZ]
theorem ZD2 {k l:List (List AV)}:ZZ (k++l)↔ZZ k∧ZZ l:=by
  constructor
  · intro h;exact⟨fun e he=>h e (List.mem_append_left _ he),fun e he=>h e (List.mem_append_right _ he)⟩
  · rintro⟨h1,h2⟩ e he;rcases List.mem_append.1 he with he|he
    · exact h1 e he
    · exact h2 e he
theorem ZHG {a:List AV}{l:List (List AV)}{i:Nat}(h:ZZ l)(h':AV.pure.pures a):ZZ (l.set i a):=by
  intro e he;rcases List.mem_or_eq_of_mem_set he with he|rfl
  · exact h e he
  · exact h'
theorem ZCe {a:List AV}{k:Nat}(h':AV.pure.pures a):ZZ (List.replicate k a):=by
  intro e he;rw[List.eq_of_mem_replicate he];exact h'
attribute [simp] ZHI ZHH ZFg ZD2 ZHG ZCe
theorem ZId {α:Type}{c:α→List AV}{σ:ZA}(h:Nice c)(l:List α):ZA8 σ (List.map c l):=by
  intro e he;obtain⟨x,_,rfl⟩:=List.mem_map.1 he;exact h.ok σ x
theorem ZIc (σ:ZA):ZA8 σ []:=by intro e he;cases he
theorem ZHP {σ:ZA}{a:List AV}{l:List (List AV)}:ZA8 σ (a::l)↔Ze σ a∧ZA8 σ l:=by simp[ZA8]
theorem ZEl {σ:ZA}{k l:List (List AV)}:ZA8 σ (k++l)↔ZA8 σ k∧ZA8 σ l:=by
  constructor
  · intro h;exact⟨fun e he=>h e (List.mem_append_left _ he),fun e he=>h e (List.mem_append_right _ he)⟩
  · rintro⟨h1,h2⟩ e he;rcases List.mem_append.1 he with he|he
    · exact h1 e he
    · exact h2 e he
theorem ZIb {σ:ZA}{a:List AV}{l:List (List AV)}{i:Nat}(h:ZA8 σ l)(h':Ze σ a):ZA8 σ (l.set i a):=by
  intro e he;rcases List.mem_or_eq_of_mem_set he with he|rfl
  · exact h e he
  · exact h'
theorem ZCw {σ:ZA}{a:List AV}{k:Nat}(h':Ze σ a):ZA8 σ (List.replicate k a):=by
  intro e he;rw[List.eq_of_mem_replicate he];exact h'
attribute [simp] ZId ZIc ZHP ZEl ZIb ZCw
theorem ZJu {α:Type}{c:α→List AV}{n:Nat}(h:NiceLen c n)(l:List α):ZEE n (List.map c l):=by
  intro e he;obtain⟨x,_,rfl⟩:=List.mem_map.1 he;exact h.len x
theorem ZJt (n:Nat):ZEE n []:=by intro e he;cases he
theorem ZIl {n:Nat}{a:List AV}{l:List (List AV)}:ZEE n (a::l)↔a.length=n∧ZEE n l:=by simp[ZEE]
theorem ZFt {n:Nat}{k l:List (List AV)}:ZEE n (k++l)↔ZEE n k∧ZEE n l:=by
  constructor
  · intro h;exact⟨fun e he=>h e (List.mem_append_left _ he),fun e he=>h e (List.mem_append_right _ he)⟩
  · rintro⟨h1,h2⟩ e he;rcases List.mem_append.1 he with he|he
    · exact h1 e he
    · exact h2 e he
theorem ZJs {n:Nat}{a:List AV}{l:List (List AV)}{i:Nat}(h:ZEE n l)(h':a.length=n):ZEE n (l.set i a):=by
  intro e he;rcases List.mem_or_eq_of_mem_set he with he|rfl
  · exact h e he
  · exact h'
theorem ZDP {n:Nat}{a:List AV}{k:Nat}(h':a.length=n):ZEE n (List.replicate k a):=by
  intro e he;rw[List.eq_of_mem_replicate he];exact h'
attribute [simp] ZJu ZJt ZIl ZFt ZJs ZDP
end
@[simp] theorem ZPi (a b:Int):(a==b)=decide (a=b):=by by_cases h:a=b<;>simp[h]
@[simp] theorem ZPh (a b:List UInt8):(a==b)=decide (a=b):=by by_cases h:a=b<;>simp[h]
@[simp] theorem ZPD (a b:Bool):(a==b)=decide (a=b):=by cases a<;>cases b<;>rfl
@[simp] theorem ZOA :(⟨#[]⟩:ByteArray)=ByteArray.empty:=rfl
@[simp] theorem ZOE (xs:List Int):u8s (List.map cU xs)=some xs:=by
  induction xs with
  |nil=>rfl
  |cons a r ih=>simp[u8s,ZN2,ih]
attribute [simp ↓] List.getElem?_map
attribute [simp] brw brw.brws AV.lits AV.lits.litss Lo.post
theorem ZJm {α:Type}{l:List α}{i:Nat}(h:i<l.length):¬l=[]:=fun e=>by subst e;simp at h
theorem cg {p q:Prop}{b:Box q}(h':q)(h:p:=by first|omega|assumption|exact ZJm (by assumption)|rfl|(simp;done)|(simp;omega)|(simp[*];done)|(simp_all;done)|(simp_all;omega)):chk p (hold q b):=⟨h,h'⟩
theorem abr.sp {c y n : Prop} {b : Box y} {b' : Box n} {p : Prop} {d : Decidable p} {α : Type} {x x' r : α} (h : c → p → x = r → y) (h' : ¬ c → ¬ p → x' = r → n)
    (e:c→p:=by first|exact id|(intro h;omega)|(simp;done)|(intro h;simpa using h)|(intro h;simp at h ⊢;omega)|(intro h;simp_all)) (e':¬c→¬p:=by first|exact id|(intro h;omega)|(simp;done)|(intro h;simpa using h)|(intro h;simp at h ⊢;omega)|(intro h;simp_all)) (hF:@ite α p d x x'=r):abr c (hold y b) (hold n b'):=
  ⟨fun k=>h k (e k) (by rw[if_pos (e k)]at hF;exact hF),fun k=>h' k (e' k) (by rw[if_neg (e' k)]at hF;exact hF)⟩
theorem abr.ns {c y n : Prop} {b : Box y} {b' : Box n} {p : Prop} {d : Decidable p} {α : Type} {x x' r : α} (h : c → ¬ p → x' = r → y) (h' : ¬ c → p → x = r → n)
    (e:c→¬p:=by first|exact id|(intro h;omega)|(simp;done)|(intro h;simpa using h)|(intro h;simp at h ⊢;omega)|(intro h;simp_all)) (e':¬c→p:=by first|exact id|(intro h;omega)|(simp;done)|(intro h;simpa using h)|(intro h;simp at h ⊢;omega)|(intro h;simp_all)) (hF:@ite α p d x x'=r):abr c (hold y b) (hold n b'):=
  ⟨fun k=>h k (e k) (by rw[if_neg (e k)]at hF;exact hF),fun k=>h' k (e' k) (by rw[if_pos (e' k)]at hF;exact hF)⟩
theorem auz {q:Prop}(g:q:=by first|omega|simp_all):q:=g
theorem Gh.to3 {B nb N:Nat}{fr fr':Frm}{σ s:ZA}(hn:nb≤s.length)(h:ZEU σ s∧Zo s.length s∧ZNa s.length fr fr'):Gh B nb N ⟨fr,σ⟩ ⟨fr',s⟩:=Gh.to hn h.1 h.2.1 h.2.2
end Go.Vl
