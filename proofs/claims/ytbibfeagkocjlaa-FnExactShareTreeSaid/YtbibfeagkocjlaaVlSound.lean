/- The value-level layer, part 4: the operations are sound. -/
import Derived.Test.YtbibfeagkocjlaaVlWorld
set_option linter.all false
namespace Go.Vl
open Go
section
variable {B : Nat} {W : Nat → Prop} {w : World} {m : Map}
theorem Conc.lit_inv {v u:Value}(h:Conc B W w m (.lit v) u):u=v:=by cases h;rfl
theorem Conc.shift {x:AV}{y:Value}(h:Conc B W w M0 x y)(m:Map):Conc B W w m x y:=
  h.mono' (Nat.le_refl _) (fun _ _ _=>rfl) (fun _ _ h=>h) m (fun _ hl=>absurd hl (Nat.not_lt_zero _)) (Nat.zero_le _)
    (fun _ _ _ _ _ _ hl=>absurd hl (Nat.not_lt_zero _))
theorem Zk :∀{cs:List AV} {i:Nat} {x:AV},AV.pure.pures cs→cs[i]? =some x→x.pure
  |c::r,0,x,h,hi=>by
    simp[AV.pure.pures]at h;simp at hi;subst hi;exact h.1
  |c::r,i+1,x,h,hi=>by
    simp[AV.pure.pures]at h
    exact Zk h.2 (by simpa using hi)
theorem Conc.toM0 {x:AV}{y:Value}(h:Conc B W w m x y):x.pure→Conc B W w M0 x y:=by
  induction h with
  |lit v=>intro _;exact .lit v
  |junk v=>intro _;exact .junk v
  |arr es b off sz cap ys hB hsz hWb hb hcap hc hx ih=>intro _;exact .arr es b off sz cap ys hB hsz hWb hb hcap hc hx
  |arrNil a cap=>intro _;exact .arrNil a cap
  |rptr e off b o ys hWb hb hc hx ih=>intro _;exact .rptr e off b o ys hWb hb hc hx
  |agg cs us hlen hx ih=>intro hp;simp only[AV.pure]at hp;exact .agg cs us hlen fun i x h=>ih i x h (Zk hp h)
  |tup cs us hlen hx ih=>intro hp;simp only[AV.pure]at hp;exact .tup cs us hlen fun i x h=>ih i x h (Zk hp h)
  |fn f xs ys us vs g1 g2 hx hy ihx ihy=>
    intro hp;simp only[AV.pure]at hp
    exact .fn f xs ys us vs g1 g2 (fun i x h=>ihx i x h (Zk hp.1 h)) (fun i x h=>ihy i x h (Zk hp.2 h))
  |_=>intro hp;simp[AV.pure]at hp
end
section
variable {B : Nat} {w : World} {m : Map} {σ : ZA}
theorem Sim.cells (h : Sim B m σ w) {l : Nat} {cs : List AV} (hl : σ[l]? = some (.cells cs)) :
    ∃(b:Nat) (ccs:Array Value) (ty:TypeId),m.f l=.box b∧w.heap[b]? =some (.cells ccs ty (0,0))∧ccs.size=cs.length∧
      ∀(i:Nat) (x:AV),cs[i]? =some x→∃y:Value,ccs[i]? =some y∧Conc B (Av m) w m x y:=by
  have:=h.blk l;rw[hl]at this
  obtain⟨b,ccs,ty,q⟩:=this
  exact⟨b,ccs,ty.1,q⟩
theorem Sim.elts (h : Sim B m σ w) {l sz : Nat} {es : List (List AV)} (hl : σ[l]? = some (.elems sz es)) :
    (∀e,e∈es→e.length=sz)∧es.length≤bd B∧((m.f l=.nil∧es=[])∨∃(b:Nat) (ccs:Array Value) (ty:TypeId),m.f l=.arr b sz es.length∧w.heap[b]? =some (.cells ccs ty (0,0))∧
      es.length*sz≤ccs.size∧∀(i:Nat) (e:List AV) (k:Nat) (x:AV),es[i]? =some e→e[k]? =some x→∃y:Value,ccs[i*sz+k]? =some y∧Conc B (Av m) w m x y):=by
  have:=h.blk l;rw[hl]at this
  obtain⟨h1,h2,h3⟩:=this
  exact⟨h1,h2,h3.imp id fun⟨b,ccs,ty,q⟩=>⟨b,ccs,ty.1,q⟩⟩
theorem ZFm (h:Sim B m σ w){x:AV}{u:Value}(hx:Conc B (Av m) w m x u)(ho:ok1 σ x):u.oneCell'=true:=by
  cases hx with
  |lit=>cases u<;>simp_all[ok1,ZAO,Value.oneCell']
  |junk v=>simp[ok1]at ho
  |arr=>rfl
  |arrNil=>rfl
  |rptr=>rfl
  |ownNil=>rfl
  |ownArr=>rfl
  |ptrBox=>rfl
  |eptrArr=>rfl
  |fn=>rfl
  |agg=>simp[ok1]at ho
  |tup=>simp[ok1]at ho
  |preOther=>simp[ok1]at ho
  |preNil=>simp[ok1]at ho
  |preArr=>simp[ok1]at ho
  |ownOther l n ao co hl hk _=>
    simp only[ok1]at ho
    split at ho
    · next sz es he=>
      obtain⟨_,_,(⟨h1,h2⟩|⟨b,ccs,ty,h1,_⟩)⟩:=h.elts he
      · have:=hk 0 (by rw[h1];rfl);omega
      · have:=hk es.length (by rw[h1];rfl);omega
    · exact ho.elim
  |ptrOther l off v hl hk=>
    simp only[ok1]at ho
    split at ho
    · next cs he=>
      obtain⟨b,_,_,h1,_⟩:=h.cells he
      exact absurd h1 (hk b)
    · exact ho.elim
  |eptrOther l n i off v hl hk=>
    simp only[ok1]at ho
    split at ho
    · next sz es he=>
      obtain⟨_,_,(⟨h1,h2⟩|⟨b,ccs,ty,h1,_⟩)⟩:=h.elts he
      · exact absurd h2 ho.2
      · have:=hk es.length (by rw[h1];rfl);omega
    · exact ho.elim
def Row (B:Nat)(m:Map)(w:World)(u:Value)(e:List AV)(off:Nat):Prop:=
  ∃b o,u=.pointer (some ⟨b,o+off,none⟩)∧∀(k:Nat) (x:AV),e[k]? =some x→∃y:Value,w.cell? ⟨b,o+k,none⟩=some y∧Conc B (Av m) w m x y
theorem ZGc {e:List AV}{off:Nat}{u:Value}(hx:Conc B (Av m) w m (.rptr e off) u):Row B m w u e off:=by
  cases hx with
  |rptr e off b o ys hW hb hc hx=>exact⟨b,o,rfl,fun k x hk=>⟨ys k,hc k x hk,(hx k x hk).shift m⟩⟩
theorem ZFX (h : Sim B m σ w) {l off : Nat} {cs : List AV} (hl : σ[l]? = some (.cells cs)) {u : Value} (hx : Conc B (Av m) w m (.ptr l off) u) :
    Row B m w u cs off:=by
  obtain⟨b,ccs,ty,h1,h2,h3,h4⟩:=h.cells hl
  cases hx with
  |ptrOther l off v hl hk=>exact absurd h1 (hk b)
  |ptrBox l off b' hl hk=>
    rw[h1]at hk;obtain rfl:=MS.box.inj hk
    refine⟨b,0,by simp,fun k x hk=> ?_⟩
    obtain⟨y,hy,hc⟩:=h4 k x hk
    exact⟨y,by rw[Nat.zero_add,ZA3 h2,hy],hc⟩
theorem ZGd (h : Sim B m σ w) {l k i off sz : Nat} {es : List (List AV)} (hl : σ[l]? = some (.elems sz es)) (hk : es.length = k) (hi : i < es.length)
    {u:Value} (hx:Conc B (Av m) w m (.eptr l k i off) u):Row B m w u (es.getD i []) off:=by
  obtain⟨_,_,h1⟩:=h.elts hl
  cases hx with
  |eptrOther l n i off v hl hk'=>
    rcases h1 with⟨h1,h2⟩|⟨b,ccs,ty,h1,_⟩
    · subst h2;simp at hi
    · have:=hk' es.length (by rw[h1];rfl);omega
  |eptrArr l n i off b sz' hl hk'=>
    rcases h1 with⟨h1,h2⟩|⟨b',ccs,ty,h1,h2,h3,h4⟩
    · subst h2;simp at hi
    · rw[h1]at hk';obtain⟨rfl,rfl,_⟩:=MS.arr.inj hk'
      refine⟨b',i*sz,rfl,fun j x hj=> ?_⟩
      have he:es[i]? =some (es.getD i []):=by simp[List.getD,hi]
      obtain⟨y,hy,hc⟩:=h4 i _ j x he hj
      exact⟨y,by rw[ZA3 h2,hy],hc⟩
theorem ZFW {P : Program} {e : List AV} {off n : Nat} {K : List AV → Prop} (h : rdE e off n K) {u : Value} (hr : Row B m w u e off) :
    ∃a cs us,u=.pointer (some a)∧K cs∧(loadCells a n).run P w=.ok us w∧us.size=cs.length∧∀i x,cs[i]? =some x→Conc B (Av m) w m x (us.getD i undef):=by
  obtain⟨b,o,rfl,hc⟩:=hr
  obtain⟨cs,hK,hlen,hcs⟩:∃cs,K cs∧cs.length=n∧∀j,j<n→∃x,cs[j]? =some x∧e[off+j]? =some x:=by
    unfold rdE at h
    split at h
    · next hh=>
      obtain⟨rfl,rfl⟩:=hh
      exact⟨e,h,rfl,fun j hj=>⟨e[j],by simp[hj],by simp[hj]⟩⟩
    · refine⟨_,h.2,by simp;omega,fun j hj=> ?_⟩
      have:=h.1
      exact⟨e[off+j]'(by omega),by simp[hj],by simp⟩
  have key:∀j,∃y,j<n→w.cell? ((Addr.mk b (o+off) none).add j)=some y∧∀x,cs[j]? =some x→Conc B (Av m) w m x y:=by
    intro j
    by_cases hj:j<n
    · obtain⟨x,h1,h2⟩:=hcs j hj
      obtain⟨y,h3,h4⟩:=hc (off+j) x h2
      refine⟨y,fun _=>⟨by rw[ZBX,Nat.add_assoc];exact h3,fun x' hx'=> ?_⟩⟩
      rw[h1]at hx';obtain rfl:=Option.some.inj hx';exact h4
    · exact⟨undef,fun h=>absurd h hj⟩
  obtain⟨f,hf⟩:=Classical.axiomOfChoice key
  refine⟨_,cs,_,rfl,hK,run_loadCells w _ n f (fun j hj=>(hf j hj).1),by simp[hlen],fun i x hi=> ?_⟩
  have hin:i<n:=by rw[←hlen];exact(List.getElem?_eq_some_iff.1 hi).1
  have:=(hf i hin).2 x hi
  simpa[Array.getD,hin]using this
theorem ZDx {e : List AV} {off : Nat} {K : AV → Prop} (h : off < e.length ∧ K (e.getD off .junk)) {u : Value} (hr : Row B m w u e off) :
    ∃a x y,u=.pointer (some a)∧K x∧w.cell? a=some y∧Conc B (Av m) w m x y:=by
  obtain⟨b,o,rfl,hc⟩:=hr
  have he:e[off]? =some (e.getD off .junk):=by simp[List.getD,h.1]
  obtain⟨y,h1,h2⟩:=hc off _ he
  exact⟨_,_,y,rfl,h.2,h1,h2⟩
theorem ZKx {P : Program} (h : Sim B m σ w) {p : AV} {n : Nat} {K : List AV → Prop} (hk : rdN σ p n K) {u : Value} (hx : Conc B (Av m) w m p u) :
    ∃a cs us,u=.pointer (some a)∧K cs∧(loadCells a n).run P w=.ok us w∧us.size=cs.length∧∀i x,cs[i]? =some x→Conc B (Av m) w m x (us.getD i undef):=by
  cases p with
  |rptr e off=>exact ZFW hk (ZGc hx)
  |ptr l off=>
    simp only[rdN]at hk
    split at hk
    · next cs he=>exact ZFW hk (ZFX h he hx)
    · exact hk.elim
  |eptr l k i off=>
    simp only[rdN]at hk
    split at hk
    · next sz es he=>exact ZFW hk.2.2 (ZGd h he hk.1 hk.2.1 hx)
    · exact hk.elim
  |_=>exact hk.elim
theorem ZKy (h : Sim B m σ w) {p : AV} {K : AV → Prop} (hk : rd1 σ p K) {u : Value} (hx : Conc B (Av m) w m p u) :
    ∃a x y,u=.pointer (some a)∧K x∧w.cell? a=some y∧Conc B (Av m) w m x y:=by
  cases p with
  |rptr e off=>exact ZDx hk (ZGc hx)
  |ptr l off=>
    simp only[rd1]at hk
    split at hk
    · next cs he=>exact ZDx hk (ZFX h he hx)
    · exact hk.elim
  |eptr l k i off=>
    simp only[rd1]at hk
    split at hk
    · next sz es he=>exact ZDx hk.2.2 (ZGd h he hk.1 hk.2.1 hx)
    · exact hk.elim
  |_=>exact hk.elim
theorem ZCl {P : Program} {t : TypeId} {i : TI} (h : Zl P t = some i) :
    ∃d ti,P.underlying t=some d∧P.info? t=some ti∧i.sh=ZHw P d∧i.size=ti.size∧i.zero=ZAP ti:=by
  unfold Zl at h
  split at h
  · next d ti h1 h2=>obtain rfl:=Option.some.inj h;exact⟨d,ti,h1,h2,rfl,rfl,rfl⟩
  · cases h
theorem ZCo {P:Program}{t:TypeId}{i:TI}(h:Zl P t=some i):(isAgg t).run P w=.ok i.sh.isAgg w:=by
  obtain⟨d,ti,h1,_,h3,_⟩:=ZCl h
  rw[h3]
  cases d with
  |slice e=>simp only[ZHw];cases P.info? e<;>simp[isAgg,underlying,h1,Sh.isAgg]
  |_=>simp[isAgg,underlying,h1,ZHw,Sh.isAgg]
theorem ZCF {P:Program}{t:TypeId}{i:TI}(h:Zl P t=some i):(sizeOf t).run P w=.ok i.size w:=by
  obtain⟨d,ti,_,h2,_,h4,_⟩:=ZCl h
  simp[sizeOf,typeInfo,h2,h4]
theorem ZF {P:Program}{t:TypeId}{d:TypeDesc}(h:P.underlying t=some d):(underlying t).run P w=.ok d w:=by
  simp[underlying,h]
theorem ZDG {P : Program} (h : Sim B m σ w) {t : TypeId} {p : AV} {K : AV → Prop} (hk : ZCU P t σ p K) {u : Value} (hx : Conc B (Av m) w m p u) :
    ∃x v,K x∧(Instr.loadAt t u).run P w=.ok v w∧Conc B (Av m) w m x v:=by
  unfold ZCU at hk
  split at hk
  · next i hi=>
    split at hk
    · next hagg=>
      obtain⟨a,cs,us,rfl,hK,hrun,hlen,hc⟩:=ZKx (P:=P) h hk hx
      refine⟨_,.agg us,hK,?_,.agg cs us hlen hc⟩
      simp[Instr.loadAt,Instr.sureAddr,loadVar,ZCo hi,hagg,ZCF hi,hrun]
    · next hagg=>
      obtain⟨a,x,y,rfl,hK,hc,hxy⟩:=ZKy h hk hx
      refine⟨x,y,hK,?_,hxy⟩
      simp[Instr.loadAt,Instr.sureAddr,loadVar,ZCo hi,hagg,hc]
  · exact hk.elim
end
end Go.Vl
