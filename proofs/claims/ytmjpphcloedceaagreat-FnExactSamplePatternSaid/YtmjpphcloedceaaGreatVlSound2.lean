import Derived.Test.YtmjpphcloedceaaGreatVlWorld
set_option linter.all false
open List renaming getElem?_eq_some_iff->zA,getElem?_append_right->zB,append_assoc->zC,mem_of_getElem?->zD,getElem?_set_ne->zE,getElem?_append_left->zF,flatten_cons->zG,getElem?_eq_getElem->zH,getD->zI,mem_cons_of_mem->zJ,getElem?_of_mem->zK,mem_cons_self->zL,getElem?_take->zM,getElem?_map->zN
open Nat renaming mul_le_mul_right->zO,add_assoc->zP,zero_add->zQ,succ_mul->zR,le_refl->zS,add_mul->zT,not_lt_zero->zU,zero_le->zV
open Array renaming getD_eq_getD_getElem?->zW
open Option.some renaming inj->zX
namespace Go.Vl
open Go
section
variable {B : Nat} {w : World}
variable {xs:List AV}{vs:List Value}{F:List Nat}
theorem DVs.len (h:DVs B w xs vs F):vs.length=xs.length:=by
 induction h with
 |nil=>rfl
 |lit v h ih=>simp[ih]
 |emp a h ih=>simp[ih]
 |arr es b sz cap ccs ty hB hne hsz hcap hh hsize hx h ih1 ih2=>simp[ih2]
theorem DVs.append {ys:List AV}{us:List Value}{G:List Nat}(h:DVs B w xs vs F)(h':DVs B w ys us G):DVs B w (xs++ys) (vs++us) (F++G):=by
 induction h with
 |nil=>exact h'
 |lit v h ih=>exact .lit v ih
 |emp a h ih=>exact .emp a ih
 |arr es b sz cap ccs ty hB hne hsz hcap hh hsize hx h ih1 ih2=>
  have:=DVs.arr (B:=B) (w:=w) es b sz cap ccs ty hB hne hsz hcap hh hsize hx ih2
  simpa[zC]using this
theorem DVs.split {ys:List AV}:∀{vs:List Value} {F:List Nat},DVs B w (xs++ys) vs F->∃vs1 vs2 F1 F2,vs=vs1++vs2/\F=F1++F2/\DVs B w xs vs1 F1/\DVs B w ys vs2 F2:=by
 induction xs with
 |nil=>intro vs F h;exact⟨[],vs,[],F,rfl,rfl,.nil,h⟩
 |cons x xs ih=>
  intro vs F h
  rw[List.cons_append]at h
  cases h with
  |lit v h=>
   obtain⟨vs1,vs2,F1,F2,rfl,rfl,h1,h2⟩:=ih h
   exact⟨v::vs1,vs2,F1,F2,rfl,rfl,.lit v h1,h2⟩
  |emp a h=>
   obtain⟨vs1,vs2,F1,F2,rfl,rfl,h1,h2⟩:=ih h
   exact⟨_::vs1,vs2,F1,F2,rfl,rfl,.emp a h1,h2⟩
  | @arr es b sz cap ccs ty _ vs' F' F0 hB hne hsz hcap hh hsize hx h=>
   obtain⟨vs1,vs2,F1,F2,rfl,rfl,h1,h2⟩:=ih h
   exact⟨_::vs1,vs2,b::F'++F1,F2,rfl,by simp[zC],.arr es b sz cap ccs ty hB hne hsz hcap hh hsize hx h1,h2⟩
theorem ZB7 {α:Type}{sz:Nat}:∀{es:List (List α)} (_:∀e,e∈es->e.length=sz) {i:Nat} {e:List α} {k:Nat} {x:α},es[i]? =some e->e[k]? =some x->es.flatten[i*sz+k]? =some x
 | [],_,i,e,k,x,h1,_=>by simp at h1
 |a::es,hsz,i,e,k,x,h1,h2=>by
  have ha:=hsz a (zL ..)
  cases i with
  |zero=>
   simp at h1;subst h1
   rw[zG,Nat.zero_mul,zQ,zF (zA.1 h2).1];exact h2
  |succ i=>
   rw[zG,zB (by rw[ha,zR];omega),ha]
   have e':(i+1)*sz+k-sz=i*sz+k:=by rw[zR];omega
   rw[e']
   exact ZB7 (fun e he=>hsz e (zJ _ he)) (by simpa using h1) h2
theorem ZCR {α:Type}{sz:Nat}:∀{es:List (List α)} (_:∀e,e∈es->e.length=sz),es.flatten.length=es.length*sz
 | [],_=>by simp
 |a::es,hsz=>by
  rw[zG,List.length_append,hsz a (zL ..),ZCR fun e he=>hsz e (zJ _ he),List.length_cons,zR];omega
theorem DVs.conc {W:Nat->Prop}(h:DVs B w xs vs F):(∀b,b∈F->¬W b)->∀(i:Nat) (x:AV),xs[i]? =some x->∃v,vs[i]? =some v/\Conc B W w M0 x v:=by
 induction h with
 |nil=>intro _ i x hi;simp at hi
 |lit v h ih=>
  intro hF i x hi
  cases i with
  |zero=>simp at hi;subst hi;exact⟨v,rfl,.lit v⟩
  |succ i=>exact ih hF i x (by simpa using hi)
 |emp a h ih=>
  intro hF i x hi
  cases i with
  |zero=>simp at hi;subst hi;exact⟨_,rfl,.arrNil a 0⟩
  |succ i=>exact ih hF i x (by simpa using hi)
 |arr es b sz cap ccs ty hB hne hsz hcap hh hsize hx h ih1 ih2=>
  intro hF i x hi
  have hF1:¬W b:=hF b (by simp)
  have k1:=ih1 fun b' hb=>hF b' (by simp[hb])
  have k2:=ih2 fun b' hb=>hF b' (by simp[hb])
  cases i with
  |succ i=>exact k2 i x (by simpa using hi)
  |zero=>
   simp at hi;subst hi
   refine⟨_,rfl,?_⟩
   have hlen:=hx.len
   have get:∀i e k x,es[i]? =some e->e[k]? =some x->∃v,ccs[i*sz+k]? =some v/\Conc B W w M0 x v:=by
    intro i e k x h1 h2
    obtain⟨v,hv,hc⟩:=k1 _ x (ZB7 hsz h1 h2)
    refine⟨v,?_,hc⟩
    rw[zM]at hv
    split at hv
    ·simpa using hv
    ·cases hv
   refine .arr es b 0 sz cap (fun i k=>ccs.getD (i*sz+k) undef) hB hsz hF1 (Array.getElem?_eq_some_iff.1 hh).1 hcap ?_ ?_
   ·intro i e k x h1 h2
    obtain⟨v,hv,_⟩:=get i e k x h1 h2
    rw[ZBL hh,zQ,hv,zW,hv];rfl
   ·intro i e k x h1 h2
    obtain⟨v,hv,hc⟩:=get i e k x h1 h2
    rw[zW,hv];exact hc
def ZQ :List AV->List (List (List AV))
 | []=>[]
 | .arr es::r=>es::ZQ r
 |_::r=>ZQ r
def ZAn :List AV->List Value->List AV
 | [],_=>[]
 | .arr _::r,h::hs=>.lit h::ZAn r hs
 |x::r,hs=>x::ZAn r hs
def Zi :List (List (List AV))->List Value->ZE
 |es::r,h::hs=>.pack [.arr es] [h]::Zi r hs
 |_,_=>[]
theorem DVs.parts (h:DVs B w xs vs F):∃(hs:List Value) (Fs:List (List Nat)),hs.length=(ZQ xs).length/\Fs.length=hs.length/\F=Fs.flatten/\
  ZAn xs hs=vs.map .lit/\∀(i:Nat) es (hd:Value) F,(ZQ xs)[i]? =some es->hs[i]? =some hd->Fs[i]? =some F->DVs B w [.arr es] [hd] F:=by
 induction h with
 |nil=>exact⟨[],[],rfl,rfl,rfl,rfl,fun i es hd F h=>by simp[ZQ]at h⟩
 |lit v h ih=>
  obtain⟨hs,Fs,h1,h2,h3,h4,h5⟩:=ih
  exact⟨hs,Fs,h1,h2,h3,by simp[ZAn,h4],h5⟩
 | @emp a xs vs F h ih=>
  obtain⟨hs,Fs,h1,h2,h3,h4,h5⟩:=ih
  refine⟨.slice a 0 0::hs,[]::Fs,by simp[ZQ,h1],by simp[h2],by simpa using h3,by simp[ZAn,h4],fun i es hd F q1 q2 q3=> ?_⟩
  cases i with
  |zero=>simp[ZQ]at q1 q2 q3;subst q1 q2 q3;exact .emp a .nil
  |succ i=>exact h5 i es hd F (by simpa[ZQ]using q1) (by simpa using q2) (by simpa using q3)
 | @arr es b sz cap ccs ty xs vs F' F hB hne hsz hcap hh hsize hx h ih1 ih2=>
  obtain⟨hs,Fs,h1,h2,h3,h4,h5⟩:=ih2
  refine⟨.slice (some ⟨b,0,none⟩) es.length cap::hs,(b::F')::Fs,by simp[ZQ,h1],by simp[h2],by simp[h3],by simp[ZAn,h4],fun i es' hd F q1 q2 q3=> ?_⟩
  cases i with
  |zero=>
   simp[ZQ]at q1 q2 q3;subst q1 q2 q3
   have:=DVs.arr (B:=B) (w:=w) es b sz cap ccs ty hB hne hsz hcap hh hsize hx .nil
   simpa using this
  |succ i=>exact h5 i es' hd F (by simpa[ZQ]using q1) (by simpa using q2) (by simpa using q3)
end
end Go.Vl
namespace Go.Vl
open Go
open AV renaming pure->zY
open Go.Instr renaming loadAt->zZ,sureAddr->yA
section
variable {B : Nat} {W : Nat -> Prop} {w : World} {m : Map}
theorem Conc.lit_inv {v u:Value}(h:Conc B W w m (.lit v) u):u=v:=by cases h;rfl
theorem Conc.shift {x:AV}{y:Value}(h:Conc B W w M0 x y)(m:Map):Conc B W w m x y:=
 h.mono' (zS _) (fun _ _ _=>rfl) (fun _ _ h=>h) m (fun _ hl=>absurd hl (zU _)) (zV _)
  (fun _ _ _ _ _ _ hl=>absurd hl (zU _))
theorem Zw :∀{cs:List AV} {i:Nat} {x:AV},zY.pures cs->cs[i]? =some x->x.pure
 |c::r,0,x,h,hi=>by
  simp[zY.pures]at h;simp at hi;subst hi;exact h.1
 |c::r,i+1,x,h,hi=>by
  simp[zY.pures]at h
  exact Zw h.2 (by simpa using hi)
theorem Conc.toM0 {x:AV}{y:Value}(h:Conc B W w m x y):x.pure->Conc B W w M0 x y:=by
 induction h with
 |lit v=>intro _;exact .lit v
 |junk v=>intro _;exact .junk v
 |arr es b off sz cap ys hB hsz hWb hb hcap hc hx ih=>intro _;exact .arr es b off sz cap ys hB hsz hWb hb hcap hc hx
 |arrNil a cap=>intro _;exact .arrNil a cap
 |rptr e off b o ys hWb hb hc hx ih=>intro _;exact .rptr e off b o ys hWb hb hc hx
 |agg cs us hlen hx ih=>intro hp;simp only[zY]at hp;exact .agg cs us hlen fun i x h=>ih i x h (Zw hp h)
 |tup cs us hlen hx ih=>intro hp;simp only[zY]at hp;exact .tup cs us hlen fun i x h=>ih i x h (Zw hp h)
 |fn f xs ys us vs g1 g2 hx hy ihx ihy=>
  intro hp;simp only[zY]at hp
  exact .fn f xs ys us vs g1 g2 (fun i x h=>ihx i x h (Zw hp.1 h)) (fun i x h=>ihy i x h (Zw hp.2 h))
 |_=>intro hp;simp[zY]at hp
end
section
variable {B : Nat} {w : World} {m : Map} {σ : ZE}
variable {l:Nat}
theorem Sim.cells (h:Sim B m σ w){cs:List AV}(hl:σ[l]? =some (.cells cs)):
  ∃(b:Nat) (ccs:Array Value) (ty:TypeId),m.f l=.box b/\w.heap[b]? =some (.cells ccs ty (0,0))/\ccs.size=cs.length/\
   ∀(i:Nat) (x:AV),cs[i]? =some x->∃y:Value,ccs[i]? =some y/\Conc B (Av m) w m x y:=by
 have:=h.blk l;rw[hl]at this
 obtain⟨b,ccs,ty,q⟩:=this
 exact⟨b,ccs,ty.1,q⟩
variable {es:List (List AV)}
theorem Sim.elts (h:Sim B m σ w){sz:Nat}(hl:σ[l]? =some (.elems sz es)):
  (∀e,e∈es->e.length=sz)/\es.length<=bd B/\((m.f l=.nil/\es=[])∨∃(b:Nat) (ccs:Array Value) (ty:TypeId),m.f l=.arr b sz es.length/\w.heap[b]? =some (.cells ccs ty (0,0))/\
   es.length*sz<=ccs.size/\∀(i:Nat) (e:List AV) (k:Nat) (x:AV),es[i]? =some e->e[k]? =some x->∃y:Value,ccs[i*sz+k]? =some y/\Conc B (Av m) w m x y):=by
 have:=h.blk l;rw[hl]at this
 obtain⟨h1,h2,h3⟩:=this
 exact⟨h1,h2,h3.imp id fun⟨b,ccs,ty,q⟩=>⟨b,ccs,ty.1,q⟩⟩
variable {u:Value}
theorem ZGU (h:Sim B m σ w){x:AV}(hx:Conc B (Av m) w m x u)(ho:ok1 σ x):u.oneCell'=true:=by
 cases hx with
 |lit=>cases u<;>simp_all[ok1,ZBX,Value.oneCell']
 |junk v=>simp[ok1]at ho
 |arr=>rfl
 |arrNil=>rfl
 |rptr=>rfl
 |ownNil=>rfl
 |ownArr=>rfl
 |ptrBox=>rfl
 |eptrArr=>rfl
 |fn=>rfl
 |agg=>simp[ok1]at ho
 |tup=>simp[ok1]at ho
 |preOther=>simp[ok1]at ho
 |preNil=>simp[ok1]at ho
 |preArr=>simp[ok1]at ho
 |ownOther l n ao co hl hk _=>
  simp only[ok1]at ho
  split at ho
  ·next sz es he=>
   obtain⟨_,_,(⟨h1,h2⟩|⟨b,ccs,ty,h1,_⟩)⟩:=h.elts he
   ·have:=hk 0 (by rw[h1];rfl);omega
   ·have:=hk es.length (by rw[h1];rfl);omega
  ·exact ho.elim
 |ptrOther l off v hl hk=>
  simp only[ok1]at ho
  split at ho
  ·next cs he=>
   obtain⟨b,_,_,h1,_⟩:=h.cells he
   exact absurd h1 (hk b)
  ·exact ho.elim
 |eptrOther l n i off v hl hk=>
  simp only[ok1]at ho
  split at ho
  ·next sz es he=>
   obtain⟨_,_,(⟨h1,h2⟩|⟨b,ccs,ty,h1,_⟩)⟩:=h.elts he
   ·exact absurd h2 ho.2
   ·have:=hk es.length (by rw[h1];rfl);omega
  ·exact ho.elim
def Row (B:Nat)(m:Map)(w:World)(u:Value)(e:List AV)(off:Nat):Prop:=
 ∃b o,u=.pointer (some ⟨b,o+off,none⟩)/\∀(k:Nat) (x:AV),e[k]? =some x->∃y:Value,w.cell? ⟨b,o+k,none⟩=some y/\Conc B (Av m) w m x y
variable {e:List AV}{off:Nat}
theorem ZHI (hx:Conc B (Av m) w m (.rptr e off) u):Row B m w u e off:=by
 cases hx with
 |rptr e off b o ys hW hb hc hx=>exact⟨b,o,rfl,fun k x hk=>⟨ys k,hc k x hk,(hx k x hk).shift m⟩⟩
theorem ZGI (h:Sim B m σ w){cs:List AV}(hl:σ[l]? =some (.cells cs))(hx:Conc B (Av m) w m (.ptr l off) u):
  Row B m w u cs off:=by
 obtain⟨b,ccs,ty,h1,h2,h3,h4⟩:=h.cells hl
 cases hx with
 |ptrOther l off v hl hk=>exact absurd h1 (hk b)
 |ptrBox l off b' hl hk=>
  rw[h1]at hk;obtain rfl:=MS.box.inj hk
  refine⟨b,0,by simp,fun k x hk=> ?_⟩
  obtain⟨y,hy,hc⟩:=h4 k x hk
  exact⟨y,by rw[zQ,ZBL h2,hy],hc⟩
theorem ZHJ (h:Sim B m σ w){k i sz:Nat}(hl:σ[l]? =some (.elems sz es))(hk:es.length=k)(hi:i<es.length)(hx:Conc B (Av m) w m (.eptr l k i off) u):Row B m w u (es.getD i []) off:=by
 obtain⟨_,_,h1⟩:=h.elts hl
 cases hx with
 |eptrOther l n i off v hl hk'=>
  rcases h1 with⟨h1,h2⟩|⟨b,ccs,ty,h1,_⟩
  ·subst h2;simp at hi
  ·have:=hk' es.length (by rw[h1];rfl);omega
 |eptrArr l n i off b sz' hl hk'=>
  rcases h1 with⟨h1,h2⟩|⟨b',ccs,ty,h1,h2,h3,h4⟩
  ·subst h2;simp at hi
  ·rw[h1]at hk';obtain⟨rfl,rfl,_⟩:=MS.arr.inj hk'
   refine⟨b',i*sz,rfl,fun j x hj=> ?_⟩
   have he:es[i]? =some (es.getD i []):=by simp[zI,hi]
   obtain⟨y,hy,hc⟩:=h4 i _ j x he hj
   exact⟨y,by rw[ZBL h2,hy],hc⟩
variable {P:Program}
theorem ZGH {n:Nat}{K:List AV->Prop}(h:rdE e off n K)(hr:Row B m w u e off):
  ∃a cs us,u=.pointer (some a)/\K cs/\(loadCells a n).run P w=.ok us w/\us.size=cs.length/\∀i x,cs[i]? =some x->Conc B (Av m) w m x (us.getD i undef):=by
 obtain⟨b,o,rfl,hc⟩:=hr
 obtain⟨cs,hK,hlen,hcs⟩:∃cs,K cs/\cs.length=n/\∀j,j<n->∃x,cs[j]? =some x/\e[off+j]? =some x:=by
  unfold rdE at h
  split at h
  ·next hh=>
   obtain⟨rfl,rfl⟩:=hh
   exact⟨e,h,rfl,fun j hj=>⟨e[j],by simp[hj],by simp[hj]⟩⟩
  ·refine⟨_,h.2,by simp;omega,fun j hj=> ?_⟩
   have:=h.1
   exact⟨e[off+j]'(by omega),by simp[hj],by simp⟩
 have key:∀j,∃y,j<n->w.cell? ((Addr.mk b (o+off) none).add j)=some y/\∀x,cs[j]? =some x->Conc B (Av m) w m x y:=by
  intro j
  by_cases hj:j<n
  ·obtain⟨x,h1,h2⟩:=hcs j hj
   obtain⟨y,h3,h4⟩:=hc (off+j) x h2
   refine⟨y,fun _=>⟨by rw[ZBw,zP];exact h3,fun x' hx'=> ?_⟩⟩
   rw[h1]at hx';obtain rfl:=zX hx';exact h4
  ·exact⟨undef,fun h=>absurd h hj⟩
 obtain⟨f,hf⟩:=Classical.axiomOfChoice key
 refine⟨_,cs,_,rfl,hK,run_loadCells w _ n f (fun j hj=>(hf j hj).1),by simp[hlen],fun i x hi=> ?_⟩
 have hin:i<n:=by rw[←hlen];exact(zA.1 hi).1
 have:=(hf i hin).2 x hi
 simpa[Array.getD,hin]using this
variable {K:AV->Prop}
theorem ZEb (h:off<e.length/\K (e.getD off .junk))(hr:Row B m w u e off):
  ∃a x y,u=.pointer (some a)/\K x/\w.cell? a=some y/\Conc B (Av m) w m x y:=by
 obtain⟨b,o,rfl,hc⟩:=hr
 have he:e[off]? =some (e.getD off .junk):=by simp[zI,h.1]
 obtain⟨y,h1,h2⟩:=hc off _ he
 exact⟨_,_,y,rfl,h.2,h1,h2⟩
theorem ZLl (h:Sim B m σ w){p:AV}{n:Nat}{K:List AV->Prop}(hk:rdN σ p n K)(hx:Conc B (Av m) w m p u):
  ∃a cs us,u=.pointer (some a)/\K cs/\(loadCells a n).run P w=.ok us w/\us.size=cs.length/\∀i x,cs[i]? =some x->Conc B (Av m) w m x (us.getD i undef):=by
 cases p with
 |rptr e off=>exact ZGH hk (ZHI hx)
 |ptr l off=>
  simp only[rdN]at hk
  split at hk
  ·next cs he=>exact ZGH hk (ZGI h he hx)
  ·exact hk.elim
 |eptr l k i off=>
  simp only[rdN]at hk
  split at hk
  ·next sz es he=>exact ZGH hk.2.2 (ZHJ h he hk.1 hk.2.1 hx)
  ·exact hk.elim
 |_=>exact hk.elim
theorem ZLm (h:Sim B m σ w){p:AV}(hk:rd1 σ p K)(hx:Conc B (Av m) w m p u):
  ∃a x y,u=.pointer (some a)/\K x/\w.cell? a=some y/\Conc B (Av m) w m x y:=by
 cases p with
 |rptr e off=>exact ZEb hk (ZHI hx)
 |ptr l off=>
  simp only[rd1]at hk
  split at hk
  ·next cs he=>exact ZEb hk (ZGI h he hx)
  ·exact hk.elim
 |eptr l k i off=>
  simp only[rd1]at hk
  split at hk
  ·next sz es he=>exact ZEb hk.2.2 (ZHJ h he hk.1 hk.2.1 hx)
  ·exact hk.elim
 |_=>exact hk.elim
variable {t:TypeId}
theorem ZCv {i:TI}(h:Zs P t=some i):
  ∃d ti,P.underlying t=some d/\P.info? t=some ti/\i.sh=ZIb P d/\i.size=ti.size/\i.zero=ZAa ti:=by
 unfold Zs at h
 split at h
 ·next d ti h1 h2=>obtain rfl:=zX h;exact⟨d,ti,h1,h2,rfl,rfl,rfl⟩
 ·cases h
theorem ZCF {i:TI}(h:Zs P t=some i):(isAgg t).run P w=.ok i.sh.isAgg w:=by
 obtain⟨d,ti,h1,_,h3,_⟩:=ZCv h
 rw[h3]
 cases d with
 |slice e=>simp only[ZIb];cases P.info? e<;>simp[isAgg,underlying,h1,Sh.isAgg]
 |_=>simp[isAgg,underlying,h1,ZIb,Sh.isAgg]
theorem ZCc {i:TI}(h:Zs P t=some i):(sizeOf t).run P w=.ok i.size w:=by
 obtain⟨d,ti,_,h2,_,h4,_⟩:=ZCv h
 simp[sizeOf,typeInfo,h2,h4]
theorem ZG {d:TypeDesc}(h:P.underlying t=some d):(underlying t).run P w=.ok d w:=by
 simp[underlying,h]
theorem ZDq (h:Sim B m σ w){p:AV}(hk:ZCs P t σ p K)(hx:Conc B (Av m) w m p u):
  ∃x v,K x/\(zZ t u).run P w=.ok v w/\Conc B (Av m) w m x v:=by
 unfold ZCs at hk
 split at hk
 ·next i hi=>
  split at hk
  ·next hagg=>
   obtain⟨a,cs,us,rfl,hK,hrun,hlen,hc⟩:=ZLl (P:=P) h hk hx
   refine⟨_,.agg us,hK,?_,.agg cs us hlen hc⟩
   simp[zZ,yA,loadVar,ZCF hi,hagg,ZCc hi,hrun]
  ·next hagg=>
   obtain⟨a,x,y,rfl,hK,hc,hxy⟩:=ZLm h hk hx
   refine⟨x,y,hK,?_,hxy⟩
   simp[zZ,yA,loadVar,ZCF hi,hagg,hc]
 ·exact hk.elim
end
end Go.Vl
namespace Go.Vl
open Go
open Go.Instr renaming indexAt->yB,sureAddr->yC,storeAt->yD,fieldAt->yE
theorem ZF7 {e:List AV}{off:Nat}{cs:List AV}{K:List AV->Prop}(h:wrE e off cs K):
  ∃new,K new/\new.length=e.length/\off+cs.length<=e.length/\∀(i:Nat) (x:AV),new[i]? =some x->
   (off<=i/\i<off+cs.length/\cs[i-off]? =some x)∨(¬(off<=i/\i<off+cs.length)/\e[i]? =some x):=by
 unfold wrE at h
 split at h
 ·next hh=>
  obtain⟨rfl,hl⟩:=hh
  refine⟨cs,h,hl,by omega,fun i x hi=>.inl ⟨zV _,?_,hi⟩⟩
  have:=(zA.1 hi).1;omega
 ·obtain⟨h1,h2⟩:=h
  refine⟨_,h2,by simp;omega,h1,fun i x hi=> ?_⟩
  have hlt:(e.take off).length=off:=by simp;omega
  by_cases a:i<off
  ·right
   refine⟨by omega,?_⟩
   rw[zC,zF (by omega),zM,iP a]at hi
   exact hi
  ·by_cases b:i<off+cs.length
   ·left
    refine⟨by omega,b,?_⟩
    rw[zC,zB (by omega),hlt,zF (by omega)]at hi
    exact hi
   ·right
    refine⟨by omega,?_⟩
    rw[zC,zB (by omega),hlt,zB (by omega),List.getElem?_drop]at hi
    rw[←hi];congr 1;omega
section
variable {B : Nat} {w : World} {m : Map} {σ : ZE}
theorem ZIg {m:Map}:∀b',Wr m b'->Wr m b':=fun _ h=>h
theorem ZR {α:Type}{l:List α}{i:Nat}{a b:α}(h:l[i]? =some a):(l.set i b)[i]? =some b:=by
 have:=(zA.1 h).1
 simp[this]
variable {W:Nat->Prop}{x:AV}
theorem Conc.nz {y:Value}(h:Conc B W w m x y):Conc B W w m (nz x) y:=by
 unfold Vl.nz
 split
 ·cases h;exact .arrNil none 0
 ·exact h
theorem Conc.nzs {y:Value}(σ:ZE)(h:Conc B W w m x y):Conc B W w m (nzs σ x) y:=by
 unfold Vl.nzs
 split
 ·exact h
 ·exact h.nz
variable {P:Program}{p:AV}{cs:List AV}{K:ZE->Prop}{u:Value}
theorem ZLk (h:Sim B m σ w)(hk:wrN σ p cs K)(hx:Conc B (Av m) w m p u){vs:List Value}(hlen:vs.length=cs.length)(hv:∀(i:Nat) (x:AV),cs[i]? =some x->∃y:Value,vs[i]? =some y/\Conc B (Av m) w m x y)(h1:∀v,v∈vs->v.oneCell'=true):
  ∃a σ' w',u=.pointer (some a)/\K σ'/\(storeCells a vs).run P w=.ok () w'/\Sim B m σ' w'/\Fr m w m w':=by
 cases p with
 |ptr l off=>
  simp only[wrN]at hk
  split at hk
  ·next old he=>
   obtain⟨new,hK,hnl,hle,hget⟩:=ZF7 hk
   obtain⟨b,ccs,ty,g1,g2,g3,g4⟩:=h.cells he
   have hblk:(m.f l).has b:=by rw[g1];rfl
   obtain⟨b0,o0,hu,_⟩:=ZGI h he hx
   have hu':u=.pointer (some ⟨b,off,none⟩):=by
    cases hx with
    |ptrOther l off v hl hk=>exact absurd g1 (hk b)
    |ptrBox l off b' hl hk=>rw[g1]at hk;obtain rfl:=MS.box.inj hk;rfl
   have hf:Fr m w m (ZAI w b (wrArr ccs off vs) ty):=
    Fr.put hblk g2 (Zt ..) m ZIg (fun _ _=>.inl rfl) (zS _) rfl
   refine⟨_,_,_,hu',hK,?_,?_,hf⟩
   ·have:=ZA0 (P:=P) b ty off vs w ccs 0 g2 h1 (by omega)
    simpa using this
   ·refine h.upd hf l (by simp[h.n]) (fun l' hl'=>⟨by rw[zE (Ne.symm hl')],rfl⟩) (fun l' b' hl' hb'=> ?_) ?_ ?_
    ·exact ZAV fun e=>hl' (h.inj l' l b' hb' (e▸hblk))
    ·rw[ZR he]
     refine⟨b,_,ZQK ty,g1,ZAl g2,by rw[Zt];omega,fun i x hi=> ?_⟩
     rw[ZA2 vs off ccs i (by omega)]
     rcases hget i x hi with⟨a1,a2,a3⟩|⟨a1,a3⟩
     ·rw[iP (by omega)]
      obtain⟨y,hy,hc⟩:=hv _ x a3
      exact⟨y,hy,hc.mono hf⟩
     ·rw[iN (by omega)]
      obtain⟨y,hy,hc⟩:=g4 i x a3
      exact⟨y,hy,hc.mono hf⟩
    ·intro l' b' hl' hb' hb''
     exact hl' (h.inj l' l b' hb' hb'')
  ·exact hk.elim
 |eptr l k j off=>
  simp only[wrN]at hk
  split at hk
  ·next sz es he=>
   obtain⟨hkk,hj,hk⟩:=hk
   obtain⟨new,hK,hnl,hle,hget⟩:=ZF7 hk
   obtain⟨hsz,hB,hcase⟩:=h.elts he
   have hej:es[j]? =some (es.getD j []):=by simp[zI,hj]
   have hlj:(es.getD j []).length=sz:=hsz _ (zD hej)
   rcases hcase with⟨_,h2⟩|⟨b,ccs,ty,g1,g2,g3,g4⟩
   ·subst h2;simp at hj
   have hblk:(m.f l).has b:=by rw[g1];rfl
   have hu':u=.pointer (some ⟨b,j*sz+off,none⟩):=by
    cases hx with
    |eptrOther l n i off v hl hk'=>have:=hk' es.length (by rw[g1];rfl);omega
    |eptrArr l n i off b' sz' hl hk'=>rw[g1]at hk';obtain⟨rfl,rfl,_⟩:=MS.arr.inj hk';rfl
   have hjs:j*sz+sz<=es.length*sz:=by
    have:(j+1)*sz<=es.length*sz:=zO sz hj
    rw[zT]at this;omega
   have hf:Fr m w m (ZAI w b (wrArr ccs (j*sz+off) vs) ty):=
    Fr.put hblk g2 (Zt ..) m ZIg (fun _ _=>.inl rfl) (zS _) rfl
   refine⟨_,_,_,hu',hK,?_,?_,hf⟩
   ·have:=ZA0 (P:=P) b ty (j*sz+off) vs w ccs 0 g2 h1 (by omega)
    simpa using this
   ·refine h.upd hf l (by simp[h.n]) (fun l' hl'=>⟨by rw[zE (Ne.symm hl')],rfl⟩) (fun l' b' hl' hb'=> ?_) ?_ ?_
    ·exact ZAV fun e=>hl' (h.inj l' l b' hb' (e▸hblk))
    ·rw[ZR he]
     refine⟨fun e hemem=> ?_,by simpa using hB,.inr ⟨b,_,ZOo ty,by simpa using g1,ZAl g2,by rw[Zt];simpa using g3,fun i e k' x hi hk'=> ?_⟩⟩
     ·obtain⟨i,hi⟩:=zK hemem
      by_cases hij:i=j
      ·subst hij;rw[ZR hej]at hi;obtain rfl:=zX hi;simp;omega
      ·rw[zE (Ne.symm hij)]at hi;exact hsz _ (zD hi)
     ·rw[ZA2 vs _ ccs _ (by omega)]
      by_cases hij:i=j
      ·subst hij
       rw[ZR hej]at hi;obtain rfl:=zX hi
       rw[zN,Option.map_eq_some_iff]at hk'
       obtain⟨x,hk',rfl⟩:=hk'
       rcases hget k' x hk' with⟨a1,a2,a3⟩|⟨a1,a3⟩
       ·rw[iP (by omega)]
        obtain⟨y,hy,hc⟩:=hv _ x a3
        exact⟨y,by rw[show i*sz+k'- (i*sz+off)=k'-off by omega];exact hy,(hc.mono hf).nzs σ⟩
       ·rw[iN (by omega)]
        obtain⟨y,hy,hc⟩:=g4 i _ k' x hej a3
        exact⟨y,hy,(hc.mono hf).nzs σ⟩
      ·rw[zE (Ne.symm hij)]at hi
       have hk'':k'<sz:=by
        have:=(zA.1 hk').1
        rw[hsz e (zD hi)]at this;exact this
       have hne:¬(j*sz+off<=i*sz+k'/\i*sz+k'<j*sz+off+vs.length):=by
        rcases Nat.lt_or_gt_of_ne hij with hlt|hgt
        ·have:(i+1)*sz<=j*sz:=zO sz hlt
         rw[zT]at this;omega
        ·have:(j+1)*sz<=i*sz:=zO sz hgt
         rw[zT]at this;omega
       rw[iN hne]
       obtain⟨y,hy,hc⟩:=g4 i e k' x hi hk'
       exact⟨y,hy,hc.mono hf⟩
    ·intro l' b' hl' hb' hb''
     exact hl' (h.inj l' l b' hb' hb'')
  ·exact hk.elim
 |_=>exact hk.elim
theorem ZAv (h:Sim B m σ w){K:List AV->Prop}(hk:x.cellsK σ K)(hx:Conc B (Av m) w m x u):
  ∃cs,K cs/\u.cells.size=cs.length/\∀(i:Nat) (y:AV),cs[i]? =some y->Conc B (Av m) w m y (u.cells.getD i undef):=by
 by_cases hagg:∃cs,x=.agg cs
 ·obtain⟨cs,rfl⟩:=hagg
  cases hx with
  |agg cs us hlen hx=>exact⟨cs,hk,hlen,hx⟩
 ·have hk':ok1 σ x/\K [x]:=by
   cases x<;>first|exact hk|exact absurd ⟨_,rfl⟩ hagg
  have h1:=ZGU h hx hk'.1
  have hc:u.cells=#[u]:=by cases u<;>first|rfl|simp[Value.oneCell']at h1
  refine⟨[x],hk'.2,by rw[hc];rfl,fun i y hi=> ?_⟩
  cases i with
  |zero=>simp at hi;subst hi;rw[hc];exact hx
  |succ i=>simp at hi
theorem ZCr :∀{cs:List AV} {i:Nat} {x:AV},Zf σ cs->cs[i]? =some x->ok1 σ x
 |c::r,0,x,h,hi=>by simp at hi;subst hi;exact h.1
 |c::r,i+1,x,h,hi=>ZCr h.2 (by simpa using hi)
variable {us:Array Value}
theorem cells_list (hlen:us.size=cs.length)(hc:∀(i:Nat) (y:AV),cs[i]? =some y->Conc B (Av m) w m y (us.getD i undef)):
  ∀(i:Nat) (x:AV),cs[i]? =some x->∃y:Value,us.toList[i]? =some y/\Conc B (Av m) w m x y:=by
 intro i x hi
 have hi':i<us.size:=by rw[hlen];exact(zA.1 hi).1
 refine⟨us[i],by simp[hi'],?_⟩
 have:=hc i x hi
 rwa[zW,Array.getElem?_eq_getElem hi',Option.getD_some]at this
theorem ZJu (h:Sim B m σ w)(hlen:us.size=cs.length)(hc:∀(i:Nat) (x:AV),cs[i]? =some x->∃y:Value,us.toList[i]? =some y/\Conc B (Av m) w m x y)(ho:Zf σ cs):
  ∀v,v∈us.toList->v.oneCell'=true:=by
 intro v hv
 obtain⟨i,hi⟩:=zK hv
 have hil:i<cs.length:=by rw[←hlen];have:=(zA.1 hi).1;simpa using this
 obtain⟨y,hy,hxy⟩:=hc i cs[i] (zH hil)
 rw[hi]at hy;obtain rfl:=zX hy
 exact ZGU h hxy (ZCr ho (zH hil))
variable {t:TypeId}
theorem ZFy (h:Sim B m σ w)(hk:ZDo P t σ p x K){v:Value}(hx:Conc B (Av m) w m p u)(hv:Conc B (Av m) w m x v):
  ∃σ' w',K σ'/\(yD t u v).run P w=.ok () w'/\Sim B m σ' w'/\Fr m w m w':=by
 unfold ZDo at hk
 split at hk
 ·next i hi=>
  obtain⟨cs,⟨hs,ho,hw⟩,hlen,hc⟩:=ZAv h hk hv
  have hcl:=cells_list hlen hc
  obtain⟨a,σ',w',rfl,hK,hrun,hs',hf⟩:=ZLk (P:=P) h hw hx (vs:=v.cells.toList) (by simpa using hlen) hcl (ZJu h hlen hcl ho)
  refine⟨σ',w',hK,?_,hs',hf⟩
  simp[yD,yC,storeVar,ZCc hi,hlen,hs,hrun]
 ·exact hk.elim
theorem ZB4 (h:Sim B m σ w)(hk:ZB5 σ p)(hx:Conc B (Av m) w m p u)(n:Nat):
  ∃b o,u=.pointer (some ⟨b,o,none⟩)/\Conc B (Av m) w m (p.adv n) (.pointer (some ⟨b,o+n,none⟩)):=by
 cases p with
 |rptr e off=>
  cases hx with
  |rptr e off b o ys hW hb hc hx=>exact⟨b,o+off,rfl,by rw[zP];exact .rptr e (off+n) b o ys hW hb hc hx⟩
 |ptr l off=>
  simp only[ZB5]at hk
  split at hk
  ·next cs he=>
   obtain⟨b,ccs,ty,g1,_⟩:=h.cells he
   cases hx with
   |ptrOther l off v hl hk=>exact absurd g1 (hk b)
   |ptrBox l off b' hl hk=>exact⟨b',off,rfl,.ptrBox l (off+n) b' hl hk⟩
  ·exact hk.elim
 |eptr l k i off=>
  simp only[ZB5]at hk
  split at hk
  ·next sz es he=>
   obtain⟨_,_,hc⟩:=h.elts he
   rcases hc with⟨g1,g2⟩|⟨b,ccs,ty,g1,_⟩
   ·exact absurd g2 hk.2
   ·cases hx with
    |eptrOther l n' i off v hl hk'=>have:=hk' es.length (by rw[g1];rfl);omega
    |eptrArr l n' i off b' sz' hl hk'=>exact⟨b',i*sz'+off,rfl,by rw[zP];exact .eptrArr l k i (off+n) b' sz' hl hk'⟩
  ·exact hk.elim
 |_=>exact hk.elim
theorem ZBJ {s:Nat}(h:P.cellsOf t=s+1):(sizeOf t).run P w=.ok (s+1) w:=by
 unfold Program.cellsOf at h
 cases hi:P.info? t with
 |none=>simp[hi]at h
 |some i=>simp[hi]at h;simp[sizeOf,typeInfo,hi,h]
variable {sz:Nat}{z:List Value}
theorem ZE6 {offs:List (Nat×Nat)}(h:Zs P t=some ⟨.struct offs,sz,z⟩):
  ∃fs,P.underlying t=some (.struct fs)/\offs=fs.toList.map fun f=>(f.offset,P.cellsOf f.type):=by
 obtain⟨d,ti,h1,_,h3,_⟩:=ZCv h
 cases d with
 |struct fs=>simp only[ZIb,Sh.struct.injEq]at h3;exact⟨fs,h1,h3⟩
 |slice e=>simp only[ZIb]at h3;cases hp:P.info? e<;>simp[hp]at h3
 |_=>simp[ZIb]at h3
theorem ZHF {n s:Nat}(h:Zs P t=some ⟨.array n s,sz,z⟩):
  ∃e,P.underlying t=some (.array n e)/\P.cellsOf e=s:=by
 obtain⟨d,ti,h1,_,h3,_⟩:=ZCv h
 cases d with
 |array n' e=>simp only[ZIb,Sh.array.injEq]at h3;obtain⟨rfl,rfl⟩:=h3;exact⟨e,h1,rfl⟩
 |slice e=>simp only[ZIb]at h3;cases hp:P.info? e<;>simp[hp]at h3
 |_=>simp[ZIb]at h3
theorem ZBk {s by_:Nat}{zs:List Value}(h:Zs P t=some ⟨.slice s by_ zs,sz,z⟩):
  ∃e i,P.underlying t=some (.slice e)/\P.info? e=some i/\i.size=s/\i.bytes=by_/\ZAa i=zs:=by
 obtain⟨d,ti,h1,_,h3,_⟩:=ZCv h
 cases d with
 |slice e=>
  simp only[ZIb]at h3
  cases hp:P.info? e with
  |none=>simp[hp]at h3
  |some i=>simp[hp]at h3;exact⟨e,i,h1,hp,h3.1.symm,h3.2.1.symm,h3.2.2.symm⟩
 |_=>simp[ZIb]at h3
theorem ZC9 (h:Sim B m σ w){f:Nat}{K:AV->Prop}(hk:ZAJ P t σ p f K)(hx:Conc B (Av m) w m p u):∃x v,K x/\(yE t u f).run P w=.ok v w/\Conc B (Av m) w m x v:=by
 unfold ZAJ at hk
 split at hk
 ·next offs sz z hi=>
  split at hk
  ·next o s ho=>
   obtain⟨fs,g1,g2⟩:=ZE6 hi
   subst g2
   simp only[zN,Option.map_eq_some_iff,Prod.mk.injEq]at ho
   obtain⟨fd,hfd,rfl,hs⟩:=ho
   obtain⟨b,o,rfl,hc⟩:=ZB4 h hk.1 hx fd.offset
   refine⟨_,_,hk.2,?_,hc⟩
   have hfd':fs[f]? =some fd:=by simpa using hfd
   simp[yE,ZG g1,hfd',yC,fieldPlace,ZBJ hs,ZBw]
  ·exact hk.elim
 ·exact hk.elim
theorem ZC8 (h:Sim B m σ w){i:AV}{K:AV->Prop}(hk:Zk P t σ x i K){v:Value}(hx:Conc B (Av m) w m x u)(hi:Conc B (Av m) w m i v):∃x' v',K x'/\(yB t u v).run P w=.ok v' w/\Conc B (Av m) w m x' v':=by
 unfold Zk at hk
 split at hk
 ·next k n sz by_ zs size z hti=>
  obtain⟨e,ie,g1,g2,g3,g4,g5⟩:=ZBk hti
  obtain rfl:=Conc.lit_inv hi
  have hsz:(sizeOf e).run P w=.ok sz w:=by simp[sizeOf,typeInfo,g2,g3]
  split at hk
  ·next es=>
   obtain⟨h0,hlt,hlen,hK⟩:=hk
   cases hx with
   |arrNil a cap=>simp at hlt
   |arr es b off sz' cap ys hB hs hW hb hcap hc hx=>
    have he:es[n.toNat]? =some (es.getD n.toNat []):=by simp[zI,hlt]
    have:sz'=sz:=by rw[←hlen];exact(hs _ (zD he)).symm
    subst this
    refine⟨_,_,hK,?_,.rptr _ 0 b (off+n.toNat*sz') (ys n.toNat) hW hb (fun k x hk=>hc _ _ k x he hk) (fun k x hk=>hx _ _ k x he hk)⟩
    have hn:0<=n/\n<(es.length:Int):=⟨h0,by omega⟩
    simp[yB,asIntOf,ZG g1,hn,hsz,ZBw]
  ·next l kk=>
   split at hk
   ·next sz' es he=>
    obtain⟨hkk,rfl,h0,hlt,hK⟩:=hk
    obtain⟨_,_,hc⟩:=h.elts he
    rcases hc with⟨_,h2⟩|⟨b,ccs,ty,h1,h2,h3,h4⟩
    ·subst h2;simp at hkk;omega
    ·cases hx with
     |ownOther l n' ao co hl hk' _=>have:=hk' es.length (by rw[h1];rfl);omega
     |ownNil l a hl hk'=>omega
     |ownArr l b' sz'' len cap ccs' ty' hl hk' hh hcap hlen=>
      rw[h1]at hk';obtain⟨rfl,rfl,_⟩:=MS.arr.inj hk'
      refine⟨_,_,hK,?_,.eptrArr l _ n.toNat 0 b sz' hl (hkk▸h1)⟩
      have hn:0<=n/\n<(kk:Int):=⟨h0,by omega⟩
      simp[yB,asIntOf,ZG g1,hn,hsz,ZBw]
   ·exact hk.elim
  ·exact hk.elim
 ·next k n len sz size z hti=>
  obtain⟨e,g1,g2⟩:=ZHF hti
  obtain rfl:=Conc.lit_inv hi
  obtain⟨h0,hlt,hl,hK⟩:=hk
  obtain⟨b,o,rfl,hc⟩:=ZB4 h hl hx (n.toNat*(sz+1))
  refine⟨_,_,hK,?_,hc⟩
  have hn:0<=n/\n<(len:Int):=⟨h0,by omega⟩
  simp[yB,asIntOf,ZG g1,hn,yC,ZBJ g2,ZBw]
 ·exact hk.elim
end
end Go.Vl
