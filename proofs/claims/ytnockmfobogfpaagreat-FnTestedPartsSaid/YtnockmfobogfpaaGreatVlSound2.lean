import Derived.Test.YtnockmfobogfpaaGreatVlWorld
set_option linter.all false
open List renaming getElem?_eq_some_iff->zA,getElem?_append_right->zB,append_assoc->zC,mem_of_getElem?->zD,getElem?_set_ne->zE,getElem?_append_left->zF,getElem?_eq_getElem->zG,getD->zH,getElem?_of_mem->zI,getElem?_take->zJ,getElem?_map->zK,flatten_cons->zL
open Nat renaming mul_le_mul_right->zM,add_assoc->zN,zero_add->zO,le_refl->zP,add_mul->zQ,not_lt_zero->zR,succ_mul->zS,zero_le->zT
open Array renaming getD_eq_getD_getElem?->zU
open Option.some renaming inj->zV
namespace Go.Vl
open Go
section
variable {B : Nat} {w : World}
variable {xs:List AV}{vs:List Value}{F:List Nat}
theorem DVs.len (h:DVs B w xs vs F):vs.length=xs.length:=by
 induction h with
 |nil=>rfl
 |lit v h ih=>simp[ih]
 |emp a h ih=>simp[ih]
 |arr es b sz cap ccs ty hB hne hsz hcap hh hsize hx h ih1 ih2=>simp[ih2]
theorem DVs.append {ys:List AV}{us:List Value}{G:List Nat}(h:DVs B w xs vs F)(h':DVs B w ys us G):DVs B w (xs++ys) (vs++us) (F++G):=by
 induction h with
 |nil=>exact h'
 |lit v h ih=>exact .lit v ih
 |emp a h ih=>exact .emp a ih
 |arr es b sz cap ccs ty hB hne hsz hcap hh hsize hx h ih1 ih2=>
  have:=DVs.arr (B:=B) (w:=w) es b sz cap ccs ty hB hne hsz hcap hh hsize hx ih2
  simpa[zC]using this
theorem DVs.split {ys:List AV}:∀{vs:List Value} {F:List Nat},DVs B w (xs++ys) vs F->∃vs1 vs2 F1 F2,vs=vs1++vs2/\F=F1++F2/\DVs B w xs vs1 F1/\DVs B w ys vs2 F2:=by
 induction xs with
 |nil=>intro vs F h;exact⟨[],vs,[],F,rfl,rfl,.nil,h⟩
 |cons x xs ih=>
  intro vs F h
  rw[List.cons_append]at h
  cases h with
  |lit v h=>
   obtain⟨vs1,vs2,F1,F2,rfl,rfl,h1,h2⟩:=ih h
   exact⟨v::vs1,vs2,F1,F2,rfl,rfl,.lit v h1,h2⟩
  |emp a h=>
   obtain⟨vs1,vs2,F1,F2,rfl,rfl,h1,h2⟩:=ih h
   exact⟨_::vs1,vs2,F1,F2,rfl,rfl,.emp a h1,h2⟩
  | @arr es b sz cap ccs ty _ vs' F' F0 hB hne hsz hcap hh hsize hx h=>
   obtain⟨vs1,vs2,F1,F2,rfl,rfl,h1,h2⟩:=ih h
   exact⟨_::vs1,vs2,b::F'++F1,F2,rfl,by simp[zC],.arr es b sz cap ccs ty hB hne hsz hcap hh hsize hx h1,h2⟩
theorem ZLG {α:Type}{sz:Nat}:∀{es:List (List α)} (_:∀e,e∈es->e.length=sz) {i:Nat} {e:List α} {k:Nat} {x:α},es[i]? =some e->e[k]? =some x->es.flatten[i*sz+k]? =some x
 | [],_,i,e,k,x,h1,_=>by simp at h1
 |a::es,hsz,i,e,k,x,h1,h2=>by
  have ha:=hsz a (List.mem_cons_self ..)
  cases i with
  |zero=>
   simp at h1;subst h1
   rw[zL,Nat.zero_mul,zO,zF (zA.1 h2).1];exact h2
  |succ i=>
   rw[zL,zB (by rw[ha,zS];omega),ha]
   have e':(i+1)*sz+k-sz=i*sz+k:=by rw[zS];omega
   rw[e']
   exact ZLG (fun e he=>hsz e (List.mem_cons_of_mem _ he)) (by simpa using h1) h2
theorem DVs.conc {W:Nat->Prop}(h:DVs B w xs vs F):(∀b,b∈F->¬W b)->∀(i:Nat) (x:AV),xs[i]? =some x->∃v,vs[i]? =some v/\Conc B W w M0 x v:=by
 induction h with
 |nil=>intro _ i x hi;simp at hi
 |lit v h ih=>
  intro hF i x hi
  cases i with
  |zero=>simp at hi;subst hi;exact⟨v,rfl,.lit v⟩
  |succ i=>exact ih hF i x (by simpa using hi)
 |emp a h ih=>
  intro hF i x hi
  cases i with
  |zero=>simp at hi;subst hi;exact⟨_,rfl,.arrNil a 0⟩
  |succ i=>exact ih hF i x (by simpa using hi)
 |arr es b sz cap ccs ty hB hne hsz hcap hh hsize hx h ih1 ih2=>
  intro hF i x hi
  have hF1:¬W b:=hF b (by simp)
  have k1:=ih1 fun b' hb=>hF b' (by simp[hb])
  have k2:=ih2 fun b' hb=>hF b' (by simp[hb])
  cases i with
  |succ i=>exact k2 i x (by simpa using hi)
  |zero=>
   simp at hi;subst hi
   refine⟨_,rfl,?_⟩
   have hlen:=hx.len
   have get:∀i e k x,es[i]? =some e->e[k]? =some x->∃v,ccs[i*sz+k]? =some v/\Conc B W w M0 x v:=by
    intro i e k x h1 h2
    obtain⟨v,hv,hc⟩:=k1 _ x (ZLG hsz h1 h2)
    refine⟨v,?_,hc⟩
    rw[zJ]at hv
    split at hv
    ·simpa using hv
    ·cases hv
   refine .arr es b 0 sz cap (fun i k=>ccs.getD (i*sz+k) undef) hB hsz hF1 (Array.getElem?_eq_some_iff.1 hh).1 hcap ?_ ?_
   ·intro i e k x h1 h2
    obtain⟨v,hv,_⟩:=get i e k x h1 h2
    rw[ZBX hh,zO,hv,zU,hv];rfl
   ·intro i e k x h1 h2
    obtain⟨v,hv,hc⟩:=get i e k x h1 h2
    rw[zU,hv];exact hc
def ZAH :List AV->List (List (List AV))
 | []=>[]
 | .arr es::r=>es::ZAH r
 |_::r=>ZAH r
def ZEq :List AV->List Value->List AV
 | [],_=>[]
 | .arr _::r,h::hs=>.lit h::ZEq r hs
 |x::r,hs=>x::ZEq r hs
def ZOO :List (List (List AV))->List Value->ZE
 |es::r,h::hs=>.pack [.arr es] [h]::ZOO r hs
 |_,_=>[]
theorem DVs.parts (h:DVs B w xs vs F):∃(hs:List Value) (Fs:List (List Nat)),hs.length=(ZAH xs).length/\Fs.length=hs.length/\F=Fs.flatten/\
  ZEq xs hs=vs.map .lit/\∀(i:Nat) es (hd:Value) F,(ZAH xs)[i]? =some es->hs[i]? =some hd->Fs[i]? =some F->DVs B w [.arr es] [hd] F:=by
 induction h with
 |nil=>exact⟨[],[],rfl,rfl,rfl,rfl,fun i es hd F h=>by simp[ZAH]at h⟩
 |lit v h ih=>
  obtain⟨hs,Fs,h1,h2,h3,h4,h5⟩:=ih
  exact⟨hs,Fs,h1,h2,h3,by simp[ZEq,h4],h5⟩
 | @emp a xs vs F h ih=>
  obtain⟨hs,Fs,h1,h2,h3,h4,h5⟩:=ih
  refine⟨.slice a 0 0::hs,[]::Fs,by simp[ZAH,h1],by simp[h2],by simpa using h3,by simp[ZEq,h4],fun i es hd F q1 q2 q3=> ?_⟩
  cases i with
  |zero=>simp[ZAH]at q1 q2 q3;subst q1 q2 q3;exact .emp a .nil
  |succ i=>exact h5 i es hd F (by simpa[ZAH]using q1) (by simpa using q2) (by simpa using q3)
 | @arr es b sz cap ccs ty xs vs F' F hB hne hsz hcap hh hsize hx h ih1 ih2=>
  obtain⟨hs,Fs,h1,h2,h3,h4,h5⟩:=ih2
  refine⟨.slice (some ⟨b,0,none⟩) es.length cap::hs,(b::F')::Fs,by simp[ZAH,h1],by simp[h2],by simp[h3],by simp[ZEq,h4],fun i es' hd F q1 q2 q3=> ?_⟩
  cases i with
  |zero=>
   simp[ZAH]at q1 q2 q3;subst q1 q2 q3
   have:=DVs.arr (B:=B) (w:=w) es b sz cap ccs ty hB hne hsz hcap hh hsize hx .nil
   simpa using this
  |succ i=>exact h5 i es' hd F (by simpa[ZAH]using q1) (by simpa using q2) (by simpa using q3)
end
end Go.Vl
namespace Go.Vl
open Go
open AV renaming pure->zW
open Go.Instr renaming loadAt->zX,sureAddr->zY
section
variable {B : Nat} {W : Nat -> Prop} {w : World} {m : Map}
theorem Conc.lit_inv {v u:Value}(h:Conc B W w m (.lit v) u):u=v:=by cases h;rfl
theorem Conc.shift {x:AV}{y:Value}(h:Conc B W w M0 x y)(m:Map):Conc B W w m x y:=
 h.mono' (zP _) (fun _ _ _=>rfl) (fun _ _ h=>h) m (fun _ hl=>absurd hl (zR _)) (zT _)
  (fun _ _ _ _ _ _ hl=>absurd hl (zR _))
theorem Zu :∀{cs:List AV} {i:Nat} {x:AV},zW.pures cs->cs[i]? =some x->x.pure
 |c::r,0,x,h,hi=>by
  simp[zW.pures]at h;simp at hi;subst hi;exact h.1
 |c::r,i+1,x,h,hi=>by
  simp[zW.pures]at h
  exact Zu h.2 (by simpa using hi)
theorem Conc.toM0 {x:AV}{y:Value}(h:Conc B W w m x y):x.pure->Conc B W w M0 x y:=by
 induction h with
 |lit v=>intro _;exact .lit v
 |junk v=>intro _;exact .junk v
 |arr es b off sz cap ys hB hsz hWb hb hcap hc hx ih=>intro _;exact .arr es b off sz cap ys hB hsz hWb hb hcap hc hx
 |arrNil a cap=>intro _;exact .arrNil a cap
 |rptr e off b o ys hWb hb hc hx ih=>intro _;exact .rptr e off b o ys hWb hb hc hx
 |agg cs us hlen hx ih=>intro hp;simp only[zW]at hp;exact .agg cs us hlen fun i x h=>ih i x h (Zu hp h)
 |tup cs us hlen hx ih=>intro hp;simp only[zW]at hp;exact .tup cs us hlen fun i x h=>ih i x h (Zu hp h)
 |fn f xs ys us vs g1 g2 hx hy ihx ihy=>
  intro hp;simp only[zW]at hp
  exact .fn f xs ys us vs g1 g2 (fun i x h=>ihx i x h (Zu hp.1 h)) (fun i x h=>ihy i x h (Zu hp.2 h))
 |_=>intro hp;simp[zW]at hp
end
section
variable {B : Nat} {w : World} {m : Map} {σ : ZE}
variable {l:Nat}
theorem Sim.cells (h:Sim B m σ w){cs:List AV}(hl:σ[l]? =some (.cells cs)):
  ∃(b:Nat) (ccs:Array Value) (ty:TypeId),m.f l=.box b/\w.heap[b]? =some (.cells ccs ty (0,0))/\ccs.size=cs.length/\
   ∀(i:Nat) (x:AV),cs[i]? =some x->∃y:Value,ccs[i]? =some y/\Conc B (Av m) w m x y:=by
 have:=h.blk l;rw[hl]at this
 obtain⟨b,ccs,ty,q⟩:=this
 exact⟨b,ccs,ty.1,q⟩
variable {es:List (List AV)}
theorem Sim.elts (h:Sim B m σ w){sz:Nat}(hl:σ[l]? =some (.elems sz es)):
  (∀e,e∈es->e.length=sz)/\es.length<=bd B/\((m.f l=.nil/\es=[])∨∃(b:Nat) (ccs:Array Value) (ty:TypeId),m.f l=.arr b sz es.length/\w.heap[b]? =some (.cells ccs ty (0,0))/\
   es.length*sz<=ccs.size/\∀(i:Nat) (e:List AV) (k:Nat) (x:AV),es[i]? =some e->e[k]? =some x->∃y:Value,ccs[i*sz+k]? =some y/\Conc B (Av m) w m x y):=by
 have:=h.blk l;rw[hl]at this
 obtain⟨h1,h2,h3⟩:=this
 exact⟨h1,h2,h3.imp id fun⟨b,ccs,ty,q⟩=>⟨b,ccs,ty.1,q⟩⟩
variable {u:Value}
theorem ZFT (h:Sim B m σ w){x:AV}(hx:Conc B (Av m) w m x u)(ho:ok1 σ x):u.oneCell'=true:=by
 cases hx with
 |lit=>cases u<;>simp_all[ok1,ZEL,Value.oneCell']
 |junk v=>simp[ok1]at ho
 |arr=>rfl
 |arrNil=>rfl
 |rptr=>rfl
 |ownNil=>rfl
 |ownArr=>rfl
 |ptrBox=>rfl
 |eptrArr=>rfl
 |fn=>rfl
 |agg=>simp[ok1]at ho
 |tup=>simp[ok1]at ho
 |preOther=>simp[ok1]at ho
 |preNil=>simp[ok1]at ho
 |preArr=>simp[ok1]at ho
 |ownOther l n ao co hl hk _=>
  simp only[ok1]at ho
  split at ho
  ·next sz es he=>
   obtain⟨_,_,(⟨h1,h2⟩|⟨b,ccs,ty,h1,_⟩)⟩:=h.elts he
   ·have:=hk 0 (by rw[h1];rfl);omega
   ·have:=hk es.length (by rw[h1];rfl);omega
  ·exact ho.elim
 |ptrOther l off v hl hk=>
  simp only[ok1]at ho
  split at ho
  ·next cs he=>
   obtain⟨b,_,_,h1,_⟩:=h.cells he
   exact absurd h1 (hk b)
  ·exact ho.elim
 |eptrOther l n i off v hl hk=>
  simp only[ok1]at ho
  split at ho
  ·next sz es he=>
   obtain⟨_,_,(⟨h1,h2⟩|⟨b,ccs,ty,h1,_⟩)⟩:=h.elts he
   ·exact absurd h2 ho.2
   ·have:=hk es.length (by rw[h1];rfl);omega
  ·exact ho.elim
def Row (B:Nat)(m:Map)(w:World)(u:Value)(e:List AV)(off:Nat):Prop:=
 ∃b o,u=.pointer (some ⟨b,o+off,none⟩)/\∀(k:Nat) (x:AV),e[k]? =some x->∃y:Value,w.cell? ⟨b,o+k,none⟩=some y/\Conc B (Av m) w m x y
variable {e:List AV}{off:Nat}
theorem ZIV (hx:Conc B (Av m) w m (.rptr e off) u):Row B m w u e off:=by
 cases hx with
 |rptr e off b o ys hW hb hc hx=>exact⟨b,o,rfl,fun k x hk=>⟨ys k,hc k x hk,(hx k x hk).shift m⟩⟩
theorem ZHM (h:Sim B m σ w){cs:List AV}(hl:σ[l]? =some (.cells cs))(hx:Conc B (Av m) w m (.ptr l off) u):
  Row B m w u cs off:=by
 obtain⟨b,ccs,ty,h1,h2,h3,h4⟩:=h.cells hl
 cases hx with
 |ptrOther l off v hl hk=>exact absurd h1 (hk b)
 |ptrBox l off b' hl hk=>
  rw[h1]at hk;obtain rfl:=MS.box.inj hk
  refine⟨b,0,by simp,fun k x hk=> ?_⟩
  obtain⟨y,hy,hc⟩:=h4 k x hk
  exact⟨y,by rw[zO,ZBX h2,hy],hc⟩
theorem ZIW (h:Sim B m σ w){k i sz:Nat}(hl:σ[l]? =some (.elems sz es))(hk:es.length=k)(hi:i<es.length)(hx:Conc B (Av m) w m (.eptr l k i off) u):Row B m w u (es.getD i []) off:=by
 obtain⟨_,_,h1⟩:=h.elts hl
 cases hx with
 |eptrOther l n i off v hl hk'=>
  rcases h1 with⟨h1,h2⟩|⟨b,ccs,ty,h1,_⟩
  ·subst h2;simp at hi
  ·have:=hk' es.length (by rw[h1];rfl);omega
 |eptrArr l n i off b sz' hl hk'=>
  rcases h1 with⟨h1,h2⟩|⟨b',ccs,ty,h1,h2,h3,h4⟩
  ·subst h2;simp at hi
  ·rw[h1]at hk';obtain⟨rfl,rfl,_⟩:=MS.arr.inj hk'
   refine⟨b',i*sz,rfl,fun j x hj=> ?_⟩
   have he:es[i]? =some (es.getD i []):=by simp[zH,hi]
   obtain⟨y,hy,hc⟩:=h4 i _ j x he hj
   exact⟨y,by rw[ZBX h2,hy],hc⟩
variable {P:Program}
theorem ZHL {n:Nat}{K:List AV->Prop}(h:rdE e off n K)(hr:Row B m w u e off):
  ∃a cs us,u=.pointer (some a)/\K cs/\(loadCells a n).run P w=.ok us w/\us.size=cs.length/\∀i x,cs[i]? =some x->Conc B (Av m) w m x (us.getD i undef):=by
 obtain⟨b,o,rfl,hc⟩:=hr
 obtain⟨cs,hK,hlen,hcs⟩:∃cs,K cs/\cs.length=n/\∀j,j<n->∃x,cs[j]? =some x/\e[off+j]? =some x:=by
  unfold rdE at h
  split at h
  ·next hh=>
   obtain⟨rfl,rfl⟩:=hh
   exact⟨e,h,rfl,fun j hj=>⟨e[j],by simp[hj],by simp[hj]⟩⟩
  ·refine⟨_,h.2,by simp;omega,fun j hj=> ?_⟩
   have:=h.1
   exact⟨e[off+j]'(by omega),by simp[hj],by simp⟩
 have key:∀j,∃y,j<n->w.cell? ((Addr.mk b (o+off) none).add j)=some y/\∀x,cs[j]? =some x->Conc B (Av m) w m x y:=by
  intro j
  by_cases hj:j<n
  ·obtain⟨x,h1,h2⟩:=hcs j hj
   obtain⟨y,h3,h4⟩:=hc (off+j) x h2
   refine⟨y,fun _=>⟨by rw[ZBx,zN];exact h3,fun x' hx'=> ?_⟩⟩
   rw[h1]at hx';obtain rfl:=zV hx';exact h4
  ·exact⟨undef,fun h=>absurd h hj⟩
 obtain⟨f,hf⟩:=Classical.axiomOfChoice key
 refine⟨_,cs,_,rfl,hK,run_loadCells w _ n f (fun j hj=>(hf j hj).1),by simp[hlen],fun i x hi=> ?_⟩
 have hin:i<n:=by rw[←hlen];exact(zA.1 hi).1
 have:=(hf i hin).2 x hi
 simpa[Array.getD,hin]using this
variable {K:AV->Prop}
theorem ZFI (h:off<e.length/\K (e.getD off .junk))(hr:Row B m w u e off):
  ∃a x y,u=.pointer (some a)/\K x/\w.cell? a=some y/\Conc B (Av m) w m x y:=by
 obtain⟨b,o,rfl,hc⟩:=hr
 have he:e[off]? =some (e.getD off .junk):=by simp[zH,h.1]
 obtain⟨y,h1,h2⟩:=hc off _ he
 exact⟨_,_,y,rfl,h.2,h1,h2⟩
theorem ZN2 (h:Sim B m σ w){p:AV}{n:Nat}{K:List AV->Prop}(hk:rdN σ p n K)(hx:Conc B (Av m) w m p u):
  ∃a cs us,u=.pointer (some a)/\K cs/\(loadCells a n).run P w=.ok us w/\us.size=cs.length/\∀i x,cs[i]? =some x->Conc B (Av m) w m x (us.getD i undef):=by
 cases p with
 |rptr e off=>exact ZHL hk (ZIV hx)
 |ptr l off=>
  simp only[rdN]at hk
  split at hk
  ·next cs he=>exact ZHL hk (ZHM h he hx)
  ·exact hk.elim
 |eptr l k i off=>
  simp only[rdN]at hk
  split at hk
  ·next sz es he=>exact ZHL hk.2.2 (ZIW h he hk.1 hk.2.1 hx)
  ·exact hk.elim
 |_=>exact hk.elim
theorem ZN3 (h:Sim B m σ w){p:AV}(hk:rd1 σ p K)(hx:Conc B (Av m) w m p u):
  ∃a x y,u=.pointer (some a)/\K x/\w.cell? a=some y/\Conc B (Av m) w m x y:=by
 cases p with
 |rptr e off=>exact ZFI hk (ZIV hx)
 |ptr l off=>
  simp only[rd1]at hk
  split at hk
  ·next cs he=>exact ZFI hk (ZHM h he hx)
  ·exact hk.elim
 |eptr l k i off=>
  simp only[rd1]at hk
  split at hk
  ·next sz es he=>exact ZFI hk.2.2 (ZIW h he hk.1 hk.2.1 hx)
  ·exact hk.elim
 |_=>exact hk.elim
variable {t:TypeId}
theorem ZDE {i:TI}(h:Zm P t=some i):
  ∃d ti,P.underlying t=some d/\P.info? t=some ti/\i.sh=ZJ3 P d/\i.size=ti.size/\i.zero=ZAU ti:=by
 unfold Zm at h
 split at h
 ·next d ti h1 h2=>obtain rfl:=zV h;exact⟨d,ti,h1,h2,rfl,rfl,rfl⟩
 ·cases h
theorem ZCN {i:TI}(h:Zm P t=some i):(isAgg t).run P w=.ok i.sh.isAgg w:=by
 obtain⟨d,ti,h1,_,h3,_⟩:=ZDE h
 rw[h3]
 cases d with
 |slice e=>simp only[ZJ3];cases P.info? e<;>simp[isAgg,underlying,h1,Sh.isAgg]
 |_=>simp[isAgg,underlying,h1,ZJ3,Sh.isAgg]
theorem ZCm {i:TI}(h:Zm P t=some i):(sizeOf t).run P w=.ok i.size w:=by
 obtain⟨d,ti,_,h2,_,h4,_⟩:=ZDE h
 simp[sizeOf,typeInfo,h2,h4]
theorem ZI {d:TypeDesc}(h:P.underlying t=some d):(underlying t).run P w=.ok d w:=by
 simp[underlying,h]
theorem ZEE (h:Sim B m σ w){p:AV}(hk:ZDA P t σ p K)(hx:Conc B (Av m) w m p u):
  ∃x v,K x/\(zX t u).run P w=.ok v w/\Conc B (Av m) w m x v:=by
 unfold ZDA at hk
 split at hk
 ·next i hi=>
  split at hk
  ·next hagg=>
   obtain⟨a,cs,us,rfl,hK,hrun,hlen,hc⟩:=ZN2 (P:=P) h hk hx
   refine⟨_,.agg us,hK,?_,.agg cs us hlen hc⟩
   simp[zX,zY,loadVar,ZCN hi,hagg,ZCm hi,hrun]
  ·next hagg=>
   obtain⟨a,x,y,rfl,hK,hc,hxy⟩:=ZN3 h hk hx
   refine⟨x,y,hK,?_,hxy⟩
   simp[zX,zY,loadVar,ZCN hi,hagg,hc]
 ·exact hk.elim
end
end Go.Vl
namespace Go.Vl
open Go
open Go.Instr renaming indexAt->zZ,sureAddr->yA,storeAt->yB,fieldAt->yC
theorem ZG8 {e:List AV}{off:Nat}{cs:List AV}{K:List AV->Prop}(h:wrE e off cs K):
  ∃new,K new/\new.length=e.length/\off+cs.length<=e.length/\∀(i:Nat) (x:AV),new[i]? =some x->
   (off<=i/\i<off+cs.length/\cs[i-off]? =some x)∨(¬(off<=i/\i<off+cs.length)/\e[i]? =some x):=by
 unfold wrE at h
 split at h
 ·next hh=>
  obtain⟨rfl,hl⟩:=hh
  refine⟨cs,h,hl,by omega,fun i x hi=>.inl ⟨zT _,?_,hi⟩⟩
  have:=(zA.1 hi).1;omega
 ·obtain⟨h1,h2⟩:=h
  refine⟨_,h2,by simp;omega,h1,fun i x hi=> ?_⟩
  have hlt:(e.take off).length=off:=by simp;omega
  by_cases a:i<off
  ·right
   refine⟨by omega,?_⟩
   rw[zC,zF (by omega),zJ,iP a]at hi
   exact hi
  ·by_cases b:i<off+cs.length
   ·left
    refine⟨by omega,b,?_⟩
    rw[zC,zB (by omega),hlt,zF (by omega)]at hi
    exact hi
   ·right
    refine⟨by omega,?_⟩
    rw[zC,zB (by omega),hlt,zB (by omega),List.getElem?_drop]at hi
    rw[←hi];congr 1;omega
section
variable {B : Nat} {w : World} {m : Map} {σ : ZE}
theorem ZKB {m:Map}:∀b',Wr m b'->Wr m b':=fun _ h=>h
theorem ZT {α:Type}{l:List α}{i:Nat}{a b:α}(h:l[i]? =some a):(l.set i b)[i]? =some b:=by
 have:=(zA.1 h).1
 simp[this]
variable {W:Nat->Prop}{x:AV}
theorem Conc.nz {y:Value}(h:Conc B W w m x y):Conc B W w m (nz x) y:=by
 unfold Vl.nz
 split
 ·cases h;exact .arrNil none 0
 ·exact h
theorem Conc.nzs {y:Value}(σ:ZE)(h:Conc B W w m x y):Conc B W w m (nzs σ x) y:=by
 unfold Vl.nzs
 split
 ·exact h
 ·exact h.nz
variable {P:Program}{p:AV}{cs:List AV}{K:ZE->Prop}{u:Value}
theorem ZN1 (h:Sim B m σ w)(hk:wrN σ p cs K)(hx:Conc B (Av m) w m p u){vs:List Value}(hlen:vs.length=cs.length)(hv:∀(i:Nat) (x:AV),cs[i]? =some x->∃y:Value,vs[i]? =some y/\Conc B (Av m) w m x y)(h1:∀v,v∈vs->v.oneCell'=true):
  ∃a σ' w',u=.pointer (some a)/\K σ'/\(storeCells a vs).run P w=.ok () w'/\Sim B m σ' w'/\Fr m w m w':=by
 cases p with
 |ptr l off=>
  simp only[wrN]at hk
  split at hk
  ·next old he=>
   obtain⟨new,hK,hnl,hle,hget⟩:=ZG8 hk
   obtain⟨b,ccs,ty,g1,g2,g3,g4⟩:=h.cells he
   have hblk:(m.f l).has b:=by rw[g1];rfl
   obtain⟨b0,o0,hu,_⟩:=ZHM h he hx
   have hu':u=.pointer (some ⟨b,off,none⟩):=by
    cases hx with
    |ptrOther l off v hl hk=>exact absurd g1 (hk b)
    |ptrBox l off b' hl hk=>rw[g1]at hk;obtain rfl:=MS.box.inj hk;rfl
   have hf:Fr m w m (ZAE w b (wrArr ccs off vs) ty):=
    Fr.put hblk g2 (Zr ..) m ZKB (fun _ _=>.inl rfl) (zP _) rfl
   refine⟨_,_,_,hu',hK,?_,?_,hf⟩
   ·have:=ZAx (P:=P) b ty off vs w ccs 0 g2 h1 (by omega)
    simpa using this
   ·refine h.upd hf l (by simp[h.n]) (fun l' hl'=>⟨by rw[zE (Ne.symm hl')],rfl⟩) (fun l' b' hl' hb'=> ?_) ?_ ?_
    ·exact ZAQ fun e=>hl' (h.inj l' l b' hb' (e▸hblk))
    ·rw[ZT he]
     refine⟨b,_,ZSP ty,g1,ZAf g2,by rw[Zr];omega,fun i x hi=> ?_⟩
     rw[ZA0 vs off ccs i (by omega)]
     rcases hget i x hi with⟨a1,a2,a3⟩|⟨a1,a3⟩
     ·rw[iP (by omega)]
      obtain⟨y,hy,hc⟩:=hv _ x a3
      exact⟨y,hy,hc.mono hf⟩
     ·rw[iN (by omega)]
      obtain⟨y,hy,hc⟩:=g4 i x a3
      exact⟨y,hy,hc.mono hf⟩
    ·intro l' b' hl' hb' hb''
     exact hl' (h.inj l' l b' hb' hb'')
  ·exact hk.elim
 |eptr l k j off=>
  simp only[wrN]at hk
  split at hk
  ·next sz es he=>
   obtain⟨hkk,hj,hk⟩:=hk
   obtain⟨new,hK,hnl,hle,hget⟩:=ZG8 hk
   obtain⟨hsz,hB,hcase⟩:=h.elts he
   have hej:es[j]? =some (es.getD j []):=by simp[zH,hj]
   have hlj:(es.getD j []).length=sz:=hsz _ (zD hej)
   rcases hcase with⟨_,h2⟩|⟨b,ccs,ty,g1,g2,g3,g4⟩
   ·subst h2;simp at hj
   have hblk:(m.f l).has b:=by rw[g1];rfl
   have hu':u=.pointer (some ⟨b,j*sz+off,none⟩):=by
    cases hx with
    |eptrOther l n i off v hl hk'=>have:=hk' es.length (by rw[g1];rfl);omega
    |eptrArr l n i off b' sz' hl hk'=>rw[g1]at hk';obtain⟨rfl,rfl,_⟩:=MS.arr.inj hk';rfl
   have hjs:j*sz+sz<=es.length*sz:=by
    have:(j+1)*sz<=es.length*sz:=zM sz hj
    rw[zQ]at this;omega
   have hf:Fr m w m (ZAE w b (wrArr ccs (j*sz+off) vs) ty):=
    Fr.put hblk g2 (Zr ..) m ZKB (fun _ _=>.inl rfl) (zP _) rfl
   refine⟨_,_,_,hu',hK,?_,?_,hf⟩
   ·have:=ZAx (P:=P) b ty (j*sz+off) vs w ccs 0 g2 h1 (by omega)
    simpa using this
   ·refine h.upd hf l (by simp[h.n]) (fun l' hl'=>⟨by rw[zE (Ne.symm hl')],rfl⟩) (fun l' b' hl' hb'=> ?_) ?_ ?_
    ·exact ZAQ fun e=>hl' (h.inj l' l b' hb' (e▸hblk))
    ·rw[ZT he]
     refine⟨fun e hemem=> ?_,by simpa using hB,.inr ⟨b,_,ZRZ ty,by simpa using g1,ZAf g2,by rw[Zr];simpa using g3,fun i e k' x hi hk'=> ?_⟩⟩
     ·obtain⟨i,hi⟩:=zI hemem
      by_cases hij:i=j
      ·subst hij;rw[ZT hej]at hi;obtain rfl:=zV hi;simp;omega
      ·rw[zE (Ne.symm hij)]at hi;exact hsz _ (zD hi)
     ·rw[ZA0 vs _ ccs _ (by omega)]
      by_cases hij:i=j
      ·subst hij
       rw[ZT hej]at hi;obtain rfl:=zV hi
       rw[zK,Option.map_eq_some_iff]at hk'
       obtain⟨x,hk',rfl⟩:=hk'
       rcases hget k' x hk' with⟨a1,a2,a3⟩|⟨a1,a3⟩
       ·rw[iP (by omega)]
        obtain⟨y,hy,hc⟩:=hv _ x a3
        exact⟨y,by rw[show i*sz+k'- (i*sz+off)=k'-off by omega];exact hy,(hc.mono hf).nzs σ⟩
       ·rw[iN (by omega)]
        obtain⟨y,hy,hc⟩:=g4 i _ k' x hej a3
        exact⟨y,hy,(hc.mono hf).nzs σ⟩
      ·rw[zE (Ne.symm hij)]at hi
       have hk'':k'<sz:=by
        have:=(zA.1 hk').1
        rw[hsz e (zD hi)]at this;exact this
       have hne:¬(j*sz+off<=i*sz+k'/\i*sz+k'<j*sz+off+vs.length):=by
        rcases Nat.lt_or_gt_of_ne hij with hlt|hgt
        ·have:(i+1)*sz<=j*sz:=zM sz hlt
         rw[zQ]at this;omega
        ·have:(j+1)*sz<=i*sz:=zM sz hgt
         rw[zQ]at this;omega
       rw[iN hne]
       obtain⟨y,hy,hc⟩:=g4 i e k' x hi hk'
       exact⟨y,hy,hc.mono hf⟩
    ·intro l' b' hl' hb' hb''
     exact hl' (h.inj l' l b' hb' hb'')
  ·exact hk.elim
 |_=>exact hk.elim
theorem ZAu (h:Sim B m σ w){K:List AV->Prop}(hk:x.cellsK σ K)(hx:Conc B (Av m) w m x u):
  ∃cs,K cs/\u.cells.size=cs.length/\∀(i:Nat) (y:AV),cs[i]? =some y->Conc B (Av m) w m y (u.cells.getD i undef):=by
 by_cases hagg:∃cs,x=.agg cs
 ·obtain⟨cs,rfl⟩:=hagg
  cases hx with
  |agg cs us hlen hx=>exact⟨cs,hk,hlen,hx⟩
 ·have hk':ok1 σ x/\K [x]:=by
   cases x<;>first|exact hk|exact absurd ⟨_,rfl⟩ hagg
  have h1:=ZFT h hx hk'.1
  have hc:u.cells=#[u]:=by cases u<;>first|rfl|simp[Value.oneCell']at h1
  refine⟨[x],hk'.2,by rw[hc];rfl,fun i y hi=> ?_⟩
  cases i with
  |zero=>simp at hi;subst hi;rw[hc];exact hx
  |succ i=>simp at hi
theorem ZBn :∀{cs:List AV} {i:Nat} {x:AV},Zl σ cs->cs[i]? =some x->ok1 σ x
 |c::r,0,x,h,hi=>by simp at hi;subst hi;exact h.1
 |c::r,i+1,x,h,hi=>ZBn h.2 (by simpa using hi)
variable {us:Array Value}
theorem cells_list (hlen:us.size=cs.length)(hc:∀(i:Nat) (y:AV),cs[i]? =some y->Conc B (Av m) w m y (us.getD i undef)):
  ∀(i:Nat) (x:AV),cs[i]? =some x->∃y:Value,us.toList[i]? =some y/\Conc B (Av m) w m x y:=by
 intro i x hi
 have hi':i<us.size:=by rw[hlen];exact(zA.1 hi).1
 refine⟨us[i],by simp[hi'],?_⟩
 have:=hc i x hi
 rwa[zU,Array.getElem?_eq_getElem hi',Option.getD_some]at this
theorem ZLV (h:Sim B m σ w)(hlen:us.size=cs.length)(hc:∀(i:Nat) (x:AV),cs[i]? =some x->∃y:Value,us.toList[i]? =some y/\Conc B (Av m) w m x y)(ho:Zl σ cs):
  ∀v,v∈us.toList->v.oneCell'=true:=by
 intro v hv
 obtain⟨i,hi⟩:=zI hv
 have hil:i<cs.length:=by rw[←hlen];have:=(zA.1 hi).1;simpa using this
 obtain⟨y,hy,hxy⟩:=hc i cs[i] (zG hil)
 rw[hi]at hy;obtain rfl:=zV hy
 exact ZFT h hxy (ZBn ho (zG hil))
variable {t:TypeId}
theorem ZGx (h:Sim B m σ w)(hk:ZEC P t σ p x K){v:Value}(hx:Conc B (Av m) w m p u)(hv:Conc B (Av m) w m x v):
  ∃σ' w',K σ'/\(yB t u v).run P w=.ok () w'/\Sim B m σ' w'/\Fr m w m w':=by
 unfold ZEC at hk
 split at hk
 ·next i hi=>
  obtain⟨cs,⟨hs,ho,hw⟩,hlen,hc⟩:=ZAu h hk hv
  have hcl:=cells_list hlen hc
  obtain⟨a,σ',w',rfl,hK,hrun,hs',hf⟩:=ZN1 (P:=P) h hw hx (vs:=v.cells.toList) (by simpa using hlen) hcl (ZLV h hlen hcl ho)
  refine⟨σ',w',hK,?_,hs',hf⟩
  simp[yB,yA,storeVar,ZCm hi,hlen,hs,hrun]
 ·exact hk.elim
theorem ZB4 (h:Sim B m σ w)(hk:ZB5 σ p)(hx:Conc B (Av m) w m p u)(n:Nat):
  ∃b o,u=.pointer (some ⟨b,o,none⟩)/\Conc B (Av m) w m (p.adv n) (.pointer (some ⟨b,o+n,none⟩)):=by
 cases p with
 |rptr e off=>
  cases hx with
  |rptr e off b o ys hW hb hc hx=>exact⟨b,o+off,rfl,by rw[zN];exact .rptr e (off+n) b o ys hW hb hc hx⟩
 |ptr l off=>
  simp only[ZB5]at hk
  split at hk
  ·next cs he=>
   obtain⟨b,ccs,ty,g1,_⟩:=h.cells he
   cases hx with
   |ptrOther l off v hl hk=>exact absurd g1 (hk b)
   |ptrBox l off b' hl hk=>exact⟨b',off,rfl,.ptrBox l (off+n) b' hl hk⟩
  ·exact hk.elim
 |eptr l k i off=>
  simp only[ZB5]at hk
  split at hk
  ·next sz es he=>
   obtain⟨_,_,hc⟩:=h.elts he
   rcases hc with⟨g1,g2⟩|⟨b,ccs,ty,g1,_⟩
   ·exact absurd g2 hk.2
   ·cases hx with
    |eptrOther l n' i off v hl hk'=>have:=hk' es.length (by rw[g1];rfl);omega
    |eptrArr l n' i off b' sz' hl hk'=>exact⟨b',i*sz'+off,rfl,by rw[zN];exact .eptrArr l k i (off+n) b' sz' hl hk'⟩
  ·exact hk.elim
 |_=>exact hk.elim
theorem ZBD {s:Nat}(h:P.cellsOf t=s+1):(sizeOf t).run P w=.ok (s+1) w:=by
 unfold Program.cellsOf at h
 cases hi:P.info? t with
 |none=>simp[hi]at h
 |some i=>simp[hi]at h;simp[sizeOf,typeInfo,hi,h]
variable {sz:Nat}{z:List Value}
theorem ZF2 {offs:List (Nat×Nat)}(h:Zm P t=some ⟨.struct offs,sz,z⟩):
  ∃fs,P.underlying t=some (.struct fs)/\offs=fs.toList.map fun f=>(f.offset,P.cellsOf f.type):=by
 obtain⟨d,ti,h1,_,h3,_⟩:=ZDE h
 cases d with
 |struct fs=>simp only[ZJ3,Sh.struct.injEq]at h3;exact⟨fs,h1,h3⟩
 |slice e=>simp only[ZJ3]at h3;cases hp:P.info? e<;>simp[hp]at h3
 |_=>simp[ZJ3]at h3
theorem ZIS {n s:Nat}(h:Zm P t=some ⟨.array n s,sz,z⟩):
  ∃e,P.underlying t=some (.array n e)/\P.cellsOf e=s:=by
 obtain⟨d,ti,h1,_,h3,_⟩:=ZDE h
 cases d with
 |array n' e=>simp only[ZJ3,Sh.array.injEq]at h3;obtain⟨rfl,rfl⟩:=h3;exact⟨e,h1,rfl⟩
 |slice e=>simp only[ZJ3]at h3;cases hp:P.info? e<;>simp[hp]at h3
 |_=>simp[ZJ3]at h3
theorem ZBj {s by_:Nat}{zs:List Value}(h:Zm P t=some ⟨.slice s by_ zs,sz,z⟩):
  ∃e i,P.underlying t=some (.slice e)/\P.info? e=some i/\i.size=s/\i.bytes=by_/\ZAU i=zs:=by
 obtain⟨d,ti,h1,_,h3,_⟩:=ZDE h
 cases d with
 |slice e=>
  simp only[ZJ3]at h3
  cases hp:P.info? e with
  |none=>simp[hp]at h3
  |some i=>simp[hp]at h3;exact⟨e,i,h1,hp,h3.1.symm,h3.2.1.symm,h3.2.2.symm⟩
 |_=>simp[ZJ3]at h3
theorem ZDS (h:Sim B m σ w){f:Nat}{K:AV->Prop}(hk:ZAF P t σ p f K)(hx:Conc B (Av m) w m p u):∃x v,K x/\(yC t u f).run P w=.ok v w/\Conc B (Av m) w m x v:=by
 unfold ZAF at hk
 split at hk
 ·next offs sz z hi=>
  split at hk
  ·next o s ho=>
   obtain⟨fs,g1,g2⟩:=ZF2 hi
   subst g2
   simp only[zK,Option.map_eq_some_iff,Prod.mk.injEq]at ho
   obtain⟨fd,hfd,rfl,hs⟩:=ho
   obtain⟨b,o,rfl,hc⟩:=ZB4 h hk.1 hx fd.offset
   refine⟨_,_,hk.2,?_,hc⟩
   have hfd':fs[f]? =some fd:=by simpa using hfd
   simp[yC,ZI g1,hfd',yA,fieldPlace,ZBD hs,ZBx]
  ·exact hk.elim
 ·exact hk.elim
theorem ZDR (h:Sim B m σ w){i:AV}{K:AV->Prop}(hk:Zp P t σ x i K){v:Value}(hx:Conc B (Av m) w m x u)(hi:Conc B (Av m) w m i v):∃x' v',K x'/\(zZ t u v).run P w=.ok v' w/\Conc B (Av m) w m x' v':=by
 unfold Zp at hk
 split at hk
 ·next k n sz by_ zs size z hti=>
  obtain⟨e,ie,g1,g2,g3,g4,g5⟩:=ZBj hti
  obtain rfl:=Conc.lit_inv hi
  have hsz:(sizeOf e).run P w=.ok sz w:=by simp[sizeOf,typeInfo,g2,g3]
  split at hk
  ·next es=>
   obtain⟨h0,hlt,hlen,hK⟩:=hk
   cases hx with
   |arrNil a cap=>simp at hlt
   |arr es b off sz' cap ys hB hs hW hb hcap hc hx=>
    have he:es[n.toNat]? =some (es.getD n.toNat []):=by simp[zH,hlt]
    have:sz'=sz:=by rw[←hlen];exact(hs _ (zD he)).symm
    subst this
    refine⟨_,_,hK,?_,.rptr _ 0 b (off+n.toNat*sz') (ys n.toNat) hW hb (fun k x hk=>hc _ _ k x he hk) (fun k x hk=>hx _ _ k x he hk)⟩
    have hn:0<=n/\n<(es.length:Int):=⟨h0,by omega⟩
    simp[zZ,asIntOf,ZI g1,hn,hsz,ZBx]
  ·next l kk=>
   split at hk
   ·next sz' es he=>
    obtain⟨hkk,rfl,h0,hlt,hK⟩:=hk
    obtain⟨_,_,hc⟩:=h.elts he
    rcases hc with⟨_,h2⟩|⟨b,ccs,ty,h1,h2,h3,h4⟩
    ·subst h2;simp at hkk;omega
    ·cases hx with
     |ownOther l n' ao co hl hk' _=>have:=hk' es.length (by rw[h1];rfl);omega
     |ownNil l a hl hk'=>omega
     |ownArr l b' sz'' len cap ccs' ty' hl hk' hh hcap hlen=>
      rw[h1]at hk';obtain⟨rfl,rfl,_⟩:=MS.arr.inj hk'
      refine⟨_,_,hK,?_,.eptrArr l _ n.toNat 0 b sz' hl (hkk▸h1)⟩
      have hn:0<=n/\n<(kk:Int):=⟨h0,by omega⟩
      simp[zZ,asIntOf,ZI g1,hn,hsz,ZBx]
   ·exact hk.elim
  ·exact hk.elim
 ·next k n len sz size z hti=>
  obtain⟨e,g1,g2⟩:=ZIS hti
  obtain rfl:=Conc.lit_inv hi
  obtain⟨h0,hlt,hl,hK⟩:=hk
  obtain⟨b,o,rfl,hc⟩:=ZB4 h hl hx (n.toNat*(sz+1))
  refine⟨_,_,hK,?_,hc⟩
  have hn:0<=n/\n<(len:Int):=⟨h0,by omega⟩
  simp[zZ,asIntOf,ZI g1,hn,yA,ZBD g2,ZBx]
 ·exact hk.elim
end
end Go.Vl
