import Derived.WalkKit
set_option linter.all false
open Option.some renaming inj->zA
open Nat renaming le_refl->zB,lt_of_lt_of_le->zC,not_lt_zero->zD,le_trans->zE
open Array renaming getElem?_eq_some_iff->zF,getElem?_setIfInBounds->zG,ext_getElem?->zH
open List renaming getElem?_eq_none->zI,length_cons->zJ,cons_append->zK,mem_append->zL,mem_cons->zM
namespace Go.Vl
open Go
theorem iP.{u}{c:Prop}{h:Decidable c}(hc:c){α:Sort u}{t e:α}:ite c t e=t:=if_pos hc
theorem iN.{u}{c:Prop}{h:Decidable c}(hc:¬c){α:Sort u}{t e:α}:ite c t e=e:=if_neg hc
def bd (B:Nat):Nat:=B%18446744073709551616
def ZNM (B:Nat):Option Nat:=if B/18446744073709551616=0 then none else some (B/18446744073709551616-1)
inductive AV where
 |lit (v:Value)
 |junk
 |arr (es:List (List AV))
 |rptr (e:List AV) (off:Nat)
 |own (l n:Nat)
 |pre (l n k:Nat)
 |ptr (l off:Nat)
 |eptr (l n i off:Nat)
 |agg (cs:List AV)
 |tup (vs:List AV)
 |fn (f:Fn) (first cap:List AV)
 deriving Inhabited
inductive Blk where
 |dead
 |tcells (ty:Option TypeId) (cs:List AV)
 |telems (ty:Option TypeId) (sz:Nat) (es:List (List AV))
 |pack (xs:List AV) (vs:List Value)
 deriving Inhabited
@[reducible, match_pattern] def Blk.cells (cs:List AV):Blk:=.tcells none cs
@[reducible, match_pattern] def Blk.elems (sz:Nat)(es:List (List AV)):Blk:=.telems none sz es
abbrev ZE :=List Blk
inductive MS where
 |dead
 |box (b:Nat)
 |nil
 |arr (b sz len:Nat)
 |pack (F:List Nat)
def MS.isPack :MS->Prop
 | .pack _=>True
 |_=>False
structure Map where
 f:Nat->MS
 n:Nat
 av:Nat->Prop
def M0 :Map:=⟨fun _=>.dead,0,fun _=>False⟩
def MS.len :MS->Option Nat
 | .nil=>some 0
 | .arr _ _ k=>some k
 |_=>none
def MS.has :MS->Nat->Prop
 | .box c,b=>c=b
 | .arr c _ _,b=>c=b
 | .pack F,b=>b∈F
 |_,_=>False
def Wr (m:Map)(b:Nat):Prop:=∃l,(m.f l).has b
def Av (m:Map)(b:Nat):Prop:=Wr m b∨m.av b
inductive Conc (B:Nat)(W:Nat->Prop)(w:World):Map->AV->Value->Prop
 |lit {m} (v:Value):Conc B W w m (.lit v) v
 |junk {m} (v:Value):Conc B W w m .junk v
 |arr {m} (es:List (List AV)) (b off sz cap:Nat) (ys:Nat->Nat->Value)
   (hB:es.length<=bd B) (hsz:∀e,e∈es->e.length=sz) (hW:¬W b) (hb:b<w.heap.size) (hcap:es.length<=cap)
   (hc:∀i e k x,es[i]? =some e->e[k]? =some x->w.cell? ⟨b,off+i*sz+k,none⟩=some (ys i k))
   (hx:∀i e k x,es[i]? =some e->e[k]? =some x->Conc B W w M0 x (ys i k)):
   Conc B W w m (.arr es) (.slice (some ⟨b,off,none⟩) es.length cap)
 |arrNil {m} (a:Option Addr) (cap:Nat):Conc B W w m (.arr []) (.slice a 0 cap)
 |rptr {m} (e:List AV) (off b o:Nat) (ys:Nat->Value)
   (hW:¬W b) (hb:b<w.heap.size)
   (hc:∀k x,e[k]? =some x->w.cell? ⟨b,o+k,none⟩=some (ys k))
   (hx:∀k x,e[k]? =some x->Conc B W w M0 x (ys k)):
   Conc B W w m (.rptr e off) (.pointer (some ⟨b,o+off,none⟩))
 |ownOther {m} (l n:Nat) (a:Option Addr) (cap:Nat) (hl:l<m.n) (h:∀k,(m.f l).len=some k->n<k) (hcap:n<=cap):Conc B W w m (.own l n) (.slice a n cap)
 |ownNil {m} (l:Nat) (a:Option Addr) (hl:l<m.n) (h:m.f l=.nil):Conc B W w m (.own l 0) (.slice a 0 0)
 |ownArr {m} (l b sz len cap:Nat) (ccs:Array Value) (ty:TypeId) (hl:l<m.n) (h:m.f l=.arr b sz len)
   (hh:w.heap[b]? =some (.cells ccs ty (0,0))) (hcap:cap*sz<=ccs.size) (hlen:len<=cap) (hz:len=0->cap=0):
   Conc B W w m (.own l len) (.slice (some ⟨b,0,none⟩) len cap)
 |preOther {m} (l n k:Nat) (v:Value) (hl:l<m.n) (h:∀k,(m.f l).len=some k->n<k):Conc B W w m (.pre l n k) v
 |preNil {m} (l:Nat) (a:Option Addr) (hl:l<m.n) (h:m.f l=.nil):Conc B W w m (.pre l 0 0) (.slice a 0 0)
 |preArr {m} (l b sz len k cap:Nat) (ccs:Array Value) (ty:TypeId) (hl:l<m.n) (h:m.f l=.arr b sz len) (hk:k<=len)
   (hh:w.heap[b]? =some (.cells ccs ty (0,0))) (hcap:cap*sz<=ccs.size) (hlen:len<=cap):
   Conc B W w m (.pre l len k) (.slice (some ⟨b,0,none⟩) k cap)
 |ptrOther {m} (l off:Nat) (v:Value) (hl:l<m.n) (h:∀b,m.f l≠.box b):Conc B W w m (.ptr l off) v
 |ptrBox {m} (l off b:Nat) (hl:l<m.n) (h:m.f l=.box b):Conc B W w m (.ptr l off) (.pointer (some ⟨b,off,none⟩))
 |eptrOther {m} (l n i off:Nat) (v:Value) (hl:l<m.n) (h:∀k,(m.f l).len=some k->n<k):Conc B W w m (.eptr l n i off) v
 |eptrArr {m} (l n i off b sz:Nat) (hl:l<m.n) (h:m.f l=.arr b sz n):Conc B W w m (.eptr l n i off) (.pointer (some ⟨b,i*sz+off,none⟩))
 |agg {m} (cs:List AV) (us:Array Value) (hlen:us.size=cs.length)
   (hx:∀i x,cs[i]? =some x->Conc B W w m x (us.getD i undef)):Conc B W w m (.agg cs) (.agg us)
 |tup {m} (cs:List AV) (us:Array Value) (hlen:us.size=cs.length)
   (hx:∀i x,cs[i]? =some x->Conc B W w m x (us.getD i undef)):Conc B W w m (.tup cs) (.tuple us)
 |fn {m} (f:Fn) (xs ys:List AV) (us vs:Array Value) (hlen:us.size=xs.length) (hlen2:vs.size=ys.length)
   (hx:∀i x,xs[i]? =some x->Conc B W w m x (us.getD i undef))
   (hy:∀i x,ys[i]? =some x->Conc B W w m x (vs.getD i undef)):Conc B W w m (.fn f xs ys) (.func f us vs)
def MS.le (s s':MS):Prop:=s'=s∨s'=.dead∨(∃k k',s.len=some k/\s'.len=some k'/\k<k')∨(s.isPack/\s'.isPack)
theorem MS.le_refl (s:MS):s.le s:=.inl rfl
theorem MS.pack_len {s:MS}(h:s.isPack):s.len=none:=by cases s<;>first|rfl|exact h.elim
theorem MS.le_trans {a b c:MS}(h:a.le b)(h':b.le c):a.le c:=by
 rcases h with rfl|rfl|⟨k,k',h1,h2,h3⟩|⟨h1,h2⟩
 ·exact h'
 ·rcases h' with rfl|rfl|⟨k,k',h1,_,_⟩|⟨h1,_⟩
  ·exact .inr (.inl rfl)
  ·exact .inr (.inl rfl)
  ·simp[MS.len]at h1
  ·exact h1.elim
 ·rcases h' with rfl|rfl|⟨j,j',g1,g2,g3⟩|⟨g1,_⟩
  ·exact .inr (.inr (.inl ⟨k,k',h1,h2,h3⟩))
  ·exact .inr (.inl rfl)
  ·rw[h2]at g1;obtain rfl:=zA g1
   exact .inr (.inr (.inl ⟨k,j',h1,g2,by omega⟩))
  ·rw[MS.pack_len g1]at h2;cases h2
 ·rcases h' with rfl|rfl|⟨j,j',g1,g2,g3⟩|⟨g1,g2⟩
  ·exact .inr (.inr (.inr ⟨h1,h2⟩))
  ·exact .inr (.inl rfl)
  ·rw[MS.pack_len h2]at g1;cases g1
  ·exact .inr (.inr (.inr ⟨h1,g2⟩))
theorem MS.le_box {s s':MS}{b:Nat}(h:s.le s')(hb:s'=.box b):s=.box b:=by
 subst hb
 rcases h with h|h|⟨k,k',_,h2,_⟩|⟨_,h2⟩
 ·exact h.symm
 ·cases h
 ·simp[MS.len]at h2
 ·exact h2.elim
structure Fr (m:Map)(w:World)(m':Map)(w':World):Prop where
 size:w.heap.size<=w'.heap.size
 keep:∀b,b<w.heap.size->¬Wr m b->w'.heap[b]? =w.heap[b]?
 phys:∀b ccs ty,Wr m b->Wr m' b->w.heap[b]? =some (.cells ccs ty (0,0))->∃ccs',w'.heap[b]? =some (.cells ccs' ty (0,0))/\ccs'.size=ccs.size
 fresh:∀b,Wr m' b->Wr m b∨w.heap.size<=b
 ids:∀l,l<m.n->(m.f l).le (m'.f l)
 n:m.n<=m'.n
 av:m'.av=m.av
 tape:w'.tape=w.tape
 os:w'.os=w.os
 output:w'.output=w.output
theorem Fr.refl (m:Map)(w:World):Fr m w m w:=
 ⟨zB _,fun _ _ _=>rfl,fun _ ccs _ _ _ h=>⟨ccs,h,rfl⟩,fun _ h=>.inl h,fun _ _=>.inl rfl,zB _,rfl,rfl,rfl,rfl⟩
def ZM9 (m:Map)(w:World):Prop:=∀b,Wr m b->b<w.heap.size/\∃ccs ty,w.heap[b]? =some (.cells ccs ty (0,0))
variable {m m':Map}{w':World}
theorem Fr.trans {m'':Map}{w w'':World}(h:Fr m w m' w')(h':Fr m' w' m'' w'')(_hok:ZM9 m w):Fr m w m'' w'' where
 size:=zE h.size h'.size
 keep b hb hn:=by
  have hb':b<w'.heap.size:=zC hb h.size
  have hn':¬Wr m' b:=fun hw=>(h.fresh b hw).elim hn (by omega)
  rw[h'.keep b hb' hn',h.keep b hb hn]
 phys b ccs ty hw hw2 hh:=by
  have hb:b<w.heap.size:=(zF.1 hh).1
  have hw':Wr m' b:=(h'.fresh b hw2).resolve_right (by have:=h.size;omega)
  obtain⟨ccs',h1,h2⟩:=h.phys b ccs ty hw hw' hh
  obtain⟨ccs'',h3,h4⟩:=h'.phys b ccs' ty hw' hw2 h1
  exact⟨ccs'',h3,by omega⟩
 fresh b hb:=by
  rcases h'.fresh b hb with hb|hb
  ·exact h.fresh b hb
  ·exact .inr (zE h.size hb)
 ids l hl:=MS.le_trans (h.ids l hl) (h'.ids l (zC hl h.n))
 n:=zE h.n h'.n
 av:=h'.av.trans h.av
 tape:=h'.tape.trans h.tape
 os:=h'.os.trans h.os
 output:=h'.output.trans h.output
theorem cell_of_heap {w:World}{b:Nat}(h:w'.heap[b]? =w.heap[b]?)(o:Nat):w'.cell? ⟨b,o,none⟩=w.cell? ⟨b,o,none⟩:=by
 simp[World.cell?,h]
variable {B:Nat}
theorem Conc.mono' {W W':Nat->Prop}{w:World}(hsize:w.heap.size<=w'.heap.size)(hkeep:∀b,b<w.heap.size->¬W b->w'.heap[b]? =w.heap[b]?)(hW:∀b,b<w.heap.size->W' b->W b){x:AV}{y:Value}(h:Conc B W w m x y):
  ∀m':Map,(∀l,l<m.n->(m.f l).le (m'.f l))->m.n<=m'.n->
   (∀l b sz len ccs ty,l<m.n->m.f l=.arr b sz len->m'.f l=.arr b sz len->w.heap[b]? =some (.cells ccs ty (0,0))->∃ccs',w'.heap[b]? =some (.cells ccs' ty (0,0))/\ccs'.size=ccs.size)->
   Conc B W' w' m' x y:=by
 induction h with
 |lit v=>intro m' _ _ _;exact .lit v
 |junk v=>intro m' _ _ _;exact .junk v
 |arr es b off sz cap ys hB hsz hWb hb hcap hc hx ih=>
  intro m' _ _ _
  refine .arr es b off sz cap ys hB hsz (fun hw=>hWb (hW b hb hw)) (by omega) hcap ?_ ?_
  ·intro i e k x h1 h2;rw[cell_of_heap (hkeep b hb hWb)];exact hc i e k x h1 h2
  ·intro i e k x h1 h2;exact ih i e k x h1 h2 M0 (fun l hl=>absurd hl (zD _)) (zB _) (fun l _ _ _ _ _ hl=>absurd hl (zD _))
 |arrNil a cap=>intro m' _ _ _;exact .arrNil a cap
 |rptr e off b o ys hWb hb hc hx ih=>
  intro m' _ _ _
  refine .rptr e off b o ys (fun hw=>hWb (hW b hb hw)) (by omega) ?_ ?_
  ·intro k x h1;rw[cell_of_heap (hkeep b hb hWb)];exact hc k x h1
  ·intro k x h1;exact ih k x h1 M0 (fun l hl=>absurd hl (zD _)) (zB _) (fun l _ _ _ _ _ hl=>absurd hl (zD _))
 |preOther l n k0 v hl h=>
  intro m' hids hn hph
  refine .preOther l n k0 v (by omega) ?_
  intro k hk
  rcases hids l hl with h'|h'|⟨k1,k2,h1,h2,h3⟩|⟨_,h2⟩
  ·rw[h']at hk;exact h k hk
  ·rw[h']at hk;simp[MS.len]at hk
  ·rw[h2]at hk;obtain rfl:=zA hk
   have:=h _ h1;omega
  ·rw[MS.pack_len h2]at hk;cases hk
 |preNil l a hl h=>
  intro m' hids hn hph
  rcases hids l hl with h'|h'|⟨k1,k2,h1,h2,h3⟩|⟨h1,_⟩
  rotate_right
  ·rw[h]at h1;exact h1.elim
  ·exact .preNil l a (by omega) (h'.trans h)
  ·exact .preOther l 0 0 _ (by omega) (by rw[h'];simp[MS.len])
  ·rw[h]at h1;obtain rfl:=zA h1
   exact .preOther l 0 0 _ (by omega) (by rw[h2];intro k hk;obtain rfl:=zA hk;exact h3)
 |preArr l b sz len k0 cap ccs ty hl h hk0 hh hcap hlen=>
  intro m' hids hn hph
  rcases hids l hl with h'|h'|⟨k1,k2,h1,h2,h3⟩|⟨h1,_⟩
  rotate_right
  ·rw[h]at h1;exact h1.elim
  ·obtain⟨ccs',g1,g2⟩:=hph l b sz len ccs ty hl h (h'.trans h) hh
   exact .preArr l b sz len k0 cap ccs' ty (by omega) (h'.trans h) hk0 g1 (by omega) hlen
  ·exact .preOther l len k0 _ (by omega) (by rw[h'];simp[MS.len])
  ·rw[h]at h1;obtain rfl:=zA h1
   exact .preOther l _ k0 _ (by omega) (by rw[h2];intro k hk;obtain rfl:=zA hk;exact h3)
 |ownOther l n a cap hl h hcap=>
  intro m' hids hn hph
  refine .ownOther l n a cap (by omega) ?_ hcap
  intro k hk
  rcases hids l hl with h'|h'|⟨k1,k2,h1,h2,h3⟩|⟨_,h2⟩
  ·rw[h']at hk;exact h k hk
  ·rw[h']at hk;simp[MS.len]at hk
  ·rw[h2]at hk;obtain rfl:=zA hk
   have:=h _ h1;omega
  ·rw[MS.pack_len h2]at hk;cases hk
 |ownNil l a hl h=>
  intro m' hids hn hph
  rcases hids l hl with h'|h'|⟨k1,k2,h1,h2,h3⟩|⟨h1,_⟩
  rotate_right
  ·rw[h]at h1;exact h1.elim
  ·exact .ownNil l a (by omega) (h'.trans h)
  ·exact .ownOther l 0 _ _ (by omega) (by rw[h'];simp[MS.len]) (zB _)
  ·rw[h]at h1;obtain rfl:=zA h1
   exact .ownOther l 0 _ _ (by omega) (by rw[h2];intro k hk;obtain rfl:=zA hk;exact h3) (zB _)
 |ownArr l b sz len cap ccs ty hl h hh hcap hlen hz=>
  intro m' hids hn hph
  rcases hids l hl with h'|h'|⟨k1,k2,h1,h2,h3⟩|⟨h1,_⟩
  rotate_right
  ·rw[h]at h1;exact h1.elim
  ·obtain⟨ccs',g1,g2⟩:=hph l b sz len ccs ty hl h (h'.trans h) hh
   exact .ownArr l b sz len cap ccs' ty (by omega) (h'.trans h) g1 (by omega) hlen hz
  ·exact .ownOther l len _ _ (by omega) (by rw[h'];simp[MS.len]) hlen
  ·rw[h]at h1;obtain rfl:=zA h1
   exact .ownOther l _ _ _ (by omega) (by rw[h2];intro k hk;obtain rfl:=zA hk;exact h3) hlen
 |ptrOther l off v hl h=>
  intro m' hids hn hph
  exact .ptrOther l off v (by omega) fun b hb=>h b (MS.le_box (hids l hl) hb)
 |ptrBox l off b hl h=>
  intro m' hids hn hph
  rcases hids l hl with h'|h'|⟨k1,k2,h1,h2,h3⟩|⟨h1,_⟩
  rotate_right
  ·rw[h]at h1;exact h1.elim
  ·exact .ptrBox l off b (by omega) (h'.trans h)
  ·exact .ptrOther l off _ (by omega) (by rw[h'];intro b hb;cases hb)
  ·rw[h]at h1;simp[MS.len]at h1
 |eptrOther l n i off v hl h=>
  intro m' hids hn hph
  refine .eptrOther l n i off v (by omega) ?_
  intro k hk
  rcases hids l hl with h'|h'|⟨k1,k2,h1,h2,h3⟩|⟨_,h2⟩
  ·rw[h']at hk;exact h k hk
  ·rw[h']at hk;simp[MS.len]at hk
  ·rw[h2]at hk;obtain rfl:=zA hk
   have:=h _ h1;omega
  ·rw[MS.pack_len h2]at hk;cases hk
 |eptrArr l n i off b sz hl h=>
  intro m' hids hn hph
  rcases hids l hl with h'|h'|⟨k1,k2,h1,h2,h3⟩|⟨h1,_⟩
  rotate_right
  ·rw[h]at h1;exact h1.elim
  ·exact .eptrArr l n i off b sz (by omega) (h'.trans h)
  ·exact .eptrOther l n i off _ (by omega) (by rw[h'];simp[MS.len])
  ·rw[h]at h1;obtain rfl:=zA h1
   exact .eptrOther l _ i off _ (by omega) (by rw[h2];intro k hk;obtain rfl:=zA hk;exact h3)
 |agg cs us hlen hx ih=>intro m' h1 h2 h3;exact .agg cs us hlen fun i x h=>ih i x h m' h1 h2 h3
 |tup cs us hlen hx ih=>intro m' h1 h2 h3;exact .tup cs us hlen fun i x h=>ih i x h m' h1 h2 h3
 |fn f xs ys us vs g1 g2 hx hy ihx ihy=>
  intro m' h1 h2 h3
  exact .fn f xs ys us vs g1 g2 (fun i x h=>ihx i x h m' h1 h2 h3) (fun i x h=>ihy i x h m' h1 h2 h3)
theorem Conc.mono {w:World}(hf:Fr m w m' w'){x:AV}{y:Value}(h:Conc B (Av m) w m x y):
  Conc B (Av m') w' m' x y:=
 h.mono' hf.size (fun b hb hn=>hf.keep b hb fun hw=>hn (.inl hw))
  (fun b hb hw=>hw.elim (fun hw=>.inl ((hf.fresh b hw).resolve_right (by omega))) (fun ha=>.inr (hf.av▸ha))) m' hf.ids hf.n
  fun l b sz len ccs ty _ hl hl' hh=>hf.phys b ccs ty ⟨l,by simp[hl,MS.has]⟩ ⟨l,by simp[hl',MS.has]⟩ hh
inductive DVs (B:Nat)(w:World):List AV->List Value->List Nat->Prop
 |nil:DVs B w [] [] []
 |lit (v:Value) {xs:List AV} {vs:List Value} {F:List Nat} (h:DVs B w xs vs F):DVs B w (.lit v::xs) (v::vs) F
 |emp (a:Option Addr) {xs:List AV} {vs:List Value} {F:List Nat} (h:DVs B w xs vs F):DVs B w (.arr []::xs) (.slice a 0 0::vs) F
 |arr (es:List (List AV)) (b sz cap:Nat) (ccs:Array Value) (ty:TypeId) {xs:List AV} {vs:List Value} {F' F:List Nat} (hB:es.length<=bd B) (hne:es≠[]) (hsz:∀e,e∈es->e.length=sz)
   (hcap:es.length<=cap) (hh:w.heap[b]? =some (.cells ccs ty (0,0))) (hsize:cap*sz<=ccs.size) (hx:DVs B w es.flatten (ccs.toList.take (es.length*sz)) F') (h:DVs B w xs vs F):
   DVs B w (.arr es::xs) (.slice (some ⟨b,0,none⟩) es.length cap::vs) (b::F'++F)
variable {vs:List Value}
theorem DVs.mem {w:World}{xs:List AV}{F:List Nat}(h:DVs B w xs vs F):∀b,b∈F->∃ccs ty,w.heap[b]? =some (.cells ccs ty (0,0)):=by
 induction h with
 |nil=>intro b hb;cases hb
 |lit v h ih=>exact ih
 |emp a h ih=>exact ih
 |arr es b sz cap ccs ty hB hne hsz hcap hh hsize hx h ih1 ih2=>
  intro b' hb
  simp only[zK,zM,zL]at hb
  rcases hb with rfl|hb|hb
  ·exact⟨_,_,hh⟩
  ·exact ih1 b' hb
  ·exact ih2 b' hb
theorem DVs.keep {w:World}{xs:List AV}{F:List Nat}(h:DVs B w xs vs F)(hk:∀b,b∈F->w'.heap[b]? =w.heap[b]?):DVs B w' xs vs F:=by
 induction h with
 |nil=>exact .nil
 |lit v h ih=>exact .lit v (ih hk)
 |emp a h ih=>exact .emp a (ih hk)
 |arr es b sz cap ccs ty hB hne hsz hcap hh hsize hx h ih1 ih2=>
  simp only[zK,zM,zL]at hk
  exact .arr es b sz cap ccs ty hB hne hsz hcap (by rw[hk b (.inl rfl),hh]) hsize (ih1 fun b' hb=>hk b' (.inr (.inl hb))) (ih2 fun b' hb=>hk b' (.inr (.inr hb)))
def ZO5 (b:Nat)(ccs:Array Value):Prop:=(ccs[0]? =some (.pointer none)∨ccs[0]? =some (.pointer (some ⟨b,0,none⟩)))/\∀a,ccs[1]? =some (.slice a 0 0)->a=none
def ZAc (B:Nat)(m:Map)(w:World)(s:MS):Option Blk->Prop
 |none|some .dead=>s=.dead
 |some (.tcells ot cs)=>∃(b:Nat) (ccs:Array Value) (ty:{t:TypeId// ∀T,ot=some T->t=T/\ZO5 b ccs}),s=.box b/\w.heap[b]? =some (.cells ccs ty (0,0))/\ccs.size=cs.length/\
   ∀(i:Nat) (x:AV),cs[i]? =some x->∃y:Value,ccs[i]? =some y/\Conc B (Av m) w m x y
 |some (.pack xs vs)=>∃F,s=.pack F/\F.Nodup/\DVs B w xs vs F
 |some (.telems ot sz es)=>(∀e,e∈es->e.length=sz)/\es.length<=bd B/\((s=.nil/\es=[])∨∃(b:Nat) (ccs:Array Value) (ty:{t:TypeId// ∀T,ot=some T->t=T}),s=.arr b sz es.length/\w.heap[b]? =some (.cells ccs ty (0,0))/\
   es.length*sz<=ccs.size/\∀(i:Nat) (e:List AV) (k:Nat) (x:AV),es[i]? =some e->e[k]? =some x->∃y:Value,ccs[i*sz+k]? =some y/\Conc B (Av m) w m x y)
def ZJA :List Value:=(List.range 20).map fun i=>Value.int .u64 ((10^i:Nat):Int)
def TbW (B:Nat)(w:World):Prop:=∀g,ZNM B=some g->g<w.heap.size/\∃ccs ty fz,w.heap[g]? =some (.cells ccs ty fz)/\ccs=ZJA.toArray
def TbOk (B:Nat)(m:Map)(w:World):Prop:=∀g,ZNM B=some g->¬Wr m g/\g<w.heap.size/\∃ccs ty fz,w.heap[g]? =some (.cells ccs ty fz)/\ccs=ZJA.toArray
theorem TbOk.w {w:World}(h:TbOk B m w):TbW B w:=fun g hg=>(h g hg).2
theorem TbW.ok {w:World}(h:TbW B w)(hm:∀b,Wr m b->ZNM B≠some b):TbOk B m w:=fun g hg=>⟨fun hw=>hm g hw hg,h g hg⟩
abbrev ZOo (ty:TypeId):{t:TypeId// ∀T,(none:Option TypeId)=some T->t=T}:=⟨ty,fun _ h=>nomatch h⟩
abbrev ZQK {b:Nat}{ccs:Array Value}(ty:TypeId):{t:TypeId// ∀T,(none:Option TypeId)=some T->t=T/\ZO5 b ccs}:=⟨ty,fun _ h=>nomatch h⟩
structure Sim (B:Nat)(m:Map)(σ:ZE)(w:World):Prop where
 n:m.n=σ.length
 blk:∀l,ZAc B m w (m.f l) σ[l]?
 inj:∀l l' b,(m.f l).has b->(m.f l').has b->l=l'
 sep:∀b,Wr m b->¬m.av b
 avlt:∀b,m.av b->b<w.heap.size
 tb:TbOk B m w
theorem TbOk.fr {σ:ZE}{w:World}(hs:Sim B m σ w)(hf:Fr m w m' w'):TbOk B m' w':=by
 intro g hg
 obtain⟨h1,h2,ccs,ty,fz,h3,h4⟩:=hs.tb g hg
 refine⟨fun hw=>(hf.fresh g hw).elim h1 (by omega),zC h2 hf.size,ccs,ty,fz,?_,h4⟩
 rw[hf.keep g h2 h1];exact h3
theorem TbOk.sub {w:World}(h:TbOk B m w)(hm:∀b,Wr m' b->Wr m b):TbOk B m' w:=fun g hg=>⟨fun hw=>(h g hg).1 (hm g hw),(h g hg).2⟩
def ZPt (B:Nat)(av:Nat->Prop)(w:World):Prop:=(∀b,av b->b<w.heap.size)/\TbW B w
theorem Sim.mapOk {σ:ZE}{w:World}(h:Sim B m σ w):ZM9 m w:=by
 intro b ⟨l,hl⟩
 have hb:=h.blk l
 have key:∃ccs ty,w.heap[b]? =some (.cells ccs ty (0,0)):=by
  cases hσ:σ[l]? with
  |none=>simp[hσ,ZAc]at hb;simp[hb,MS.has]at hl
  |some k=>
   cases k with
   |dead=>simp[hσ,ZAc]at hb;simp[hb,MS.has]at hl
   |tcells ot cs=>
    rw[hσ]at hb
    obtain⟨b',ccs,ty,h1,h2,_⟩:=hb
    simp[h1,MS.has]at hl;subst hl;exact⟨_,_,h2⟩
   |telems oe sz es=>
    rw[hσ]at hb
    obtain⟨_,_,(⟨h1,_⟩|⟨b',ccs,ty,h1,h2,_⟩)⟩:=hb
    ·simp[h1,MS.has]at hl
    ·simp[h1,MS.has]at hl;subst hl;exact⟨_,_,h2⟩
   |pack xs vs=>
    rw[hσ]at hb
    obtain⟨F,h1,_,h2⟩:=hb
    rw[h1]at hl
    exact h2.mem b hl
 obtain⟨ccs,ty,hk⟩:=key
 exact⟨(zF.1 hk).1,ccs,ty,hk⟩
end Go.Vl
namespace Go.Vl
open Go
inductive Sh where
 |word
 |agg
 |slice (sz bytes:Nat) (zero:List Value)
 |struct (offs:List (Nat×Nat))
 |array (len sz:Nat)
structure TI where
 sh:Sh
 size:Nat
 zero:List Value
def ZAa (i:TypeInfo):List Value:=match i.zero with
 |some z=>z.cells.toList
 |none=>[]
def ZIb (P:Program):TypeDesc->Sh
 | .slice e=>match P.info? e with
  |some i=>.slice i.size i.bytes (ZAa i)
  |none=>.agg
 | .struct fs=>.struct (fs.toList.map fun f=>(f.offset,P.cellsOf f.type))
 | .array n e=>.array n (P.cellsOf e)
 |_=>.word
def Zs (P:Program)(t:TypeId):Option TI:=
 match P.underlying t,P.info? t with
 |some d,some i=>some ⟨ZIb P d,i.size,ZAa i⟩
 |_,_=>none
def Sh.isAgg :Sh->Bool
 | .struct _| .array _ _=>true
 |_=>false
def ZBX :Value->Prop
 | .agg _| .tuple _=>False
 |_=>True
def ok1 (σ:ZE):AV->Prop
 | .lit v=>ZBX v
 | .arr _| .rptr _ _| .fn _ _ _=>True
 | .own l n=>match σ[l]? with
  |some (.elems _ es)=>es.length=n
  |_=>False
 | .ptr l _=>match σ[l]? with
  |some (.cells _)=>True
  |_=>False
 | .eptr l n _ _=>match σ[l]? with
  |some (.elems _ es)=>es.length=n/\es≠[]
  |_=>False
 |_=>False
def Zf (σ:ZE):List AV->Prop
 | []=>True
 |x::r=>ok1 σ x/\Zf σ r
def AV.cellsK (σ:ZE)(x:AV)(K:List AV->Prop):Prop:=
 match x with
 | .agg cs=>K cs
 |x=>ok1 σ x/\K [x]
def rdE (e:List AV)(off n:Nat)(K:List AV->Prop):Prop:=
 if off=0/\n=e.length then K e else off+n<=e.length/\K ((e.drop off).take n)
def rdN (σ:ZE)(p:AV)(n:Nat)(K:List AV->Prop):Prop:=
 match p with
 | .rptr e off=>rdE e off n K
 | .ptr l off=>match σ[l]? with
  |some (.cells cs)=>rdE cs off n K
  |_=>False
 | .eptr l k i off=>match σ[l]? with
  |some (.elems _ es)=>es.length=k/\i<es.length/\rdE (es.getD i []) off n K
  |_=>False
 |_=>False
def rd1 (σ:ZE)(p:AV)(K:AV->Prop):Prop:=
 match p with
 | .rptr e off=>off<e.length/\K (e.getD off .junk)
 | .ptr l off=>match σ[l]? with
  |some (.cells cs)=>off<cs.length/\K (cs.getD off .junk)
  |_=>False
 | .eptr l k i off=>match σ[l]? with
  |some (.elems _ es)=>es.length=k/\i<es.length/\off<(es.getD i []).length/\K ((es.getD i []).getD off .junk)
  |_=>False
 |_=>False
def ZCs (P:Program)(t:TypeId)(σ:ZE)(p:AV)(K:AV->Prop):Prop:=
 match Zs P t with
 |some i=>if i.sh.isAgg then rdN σ p i.size (fun cs=>K (.agg cs))else rd1 σ p K
 |none=>False
def nz :AV->AV
 | .lit (.slice none 0 0)=>.arr []
 |x=>x
def ZOE :Blk->Bool
 | .pack _ _=>true
 |_=>false
def nzs (σ:ZE)(x:AV):AV:=if σ.any ZOE=true then x else nz x
def wrE (e:List AV)(off:Nat)(cs:List AV)(K:List AV->Prop):Prop:=
 if off=0/\cs.length=e.length then K cs
 else off+cs.length<=e.length/\K (e.take off++cs++e.drop (off+cs.length))
def wrN (σ:ZE)(p:AV)(cs:List AV)(K:ZE->Prop):Prop:=
 match p with
 | .ptr l off=>match σ[l]? with
  |some (.cells old)=>wrE old off cs (fun new=>K (σ.set l (.cells new)))
  |_=>False
 | .eptr l k i off=>match σ[l]? with
  |some (.elems sz es)=>es.length=k/\i<es.length/\wrE (es.getD i []) off cs (fun new=>K (σ.set l (.elems sz (es.set i (new.map (nzs σ))))))
  |_=>False
 |_=>False
def ZDo (P:Program)(t:TypeId)(σ:ZE)(p v:AV)(K:ZE->Prop):Prop:=
 match Zs P t with
 |some i=>v.cellsK σ (fun cs=>cs.length=i.size/\Zf σ cs/\wrN σ p cs K)
 |none=>False
def ZB5 (σ:ZE):AV->Prop
 | .rptr _ _=>True
 | .ptr l _=>match σ[l]? with
  |some (.cells _)=>True
  |_=>False
 | .eptr l k _ _=>match σ[l]? with
  |some (.elems _ es)=>es.length=k/\es≠[]
  |_=>False
 |_=>False
def AV.adv (n:Nat):AV->AV
 | .rptr e off=>.rptr e (off+n)
 | .ptr l off=>.ptr l (off+n)
 | .eptr l k i off=>.eptr l k i (off+n)
 |x=>x
def ZAJ (P:Program)(t:TypeId)(σ:ZE)(p:AV)(f:Nat)(K:AV->Prop):Prop:=
 match Zs P t with
 |some ⟨.struct offs,_,_⟩=>match offs[f]? with
  |some (o,s+1)=>ZB5 σ p/\K (p.adv o)
  |_=>False
 |_=>False
def Zk (P:Program)(t:TypeId)(σ:ZE)(x i:AV)(K:AV->Prop):Prop:=
 match i,Zs P t with
 | .lit (.int _ n),some ⟨.slice sz _ _,_,_⟩=>match x with
  | .arr es=>0<=n/\n.toNat<es.length/\(es.getD n.toNat []).length=sz/\K (.rptr (es.getD n.toNat []) 0)
  | .own l k=>match σ[l]? with
   |some (.elems sz' es)=>es.length=k/\sz'=sz/\0<=n/\n.toNat<k/\K (.eptr l k n.toNat 0)
   |_=>False
  |_=>False
 | .lit (.int _ n),some ⟨.array len (sz+1),_,_⟩=>0<=n/\n.toNat<len/\ZB5 σ x/\K (x.adv (n.toNat*(sz+1)))
 |_,_=>False
def byteAt (s:ByteArray)(i:Nat):Nat:=(s.data.toList.getD i 0).toNat
def ZC2 (P:Program)(t:TypeId)(x i:AV)(K:AV->Prop):Prop:=
 match x,i with
 | .lit (.string s),.lit (.int _ n)=>P.underlying t=some .string/\0<=n/\n.toNat<s.size/\K (.lit (.int .u8 (byteAt s n.toNat)))
 | .agg cs,.lit (.int _ n)=>match P.underlying t with
  |some (.array len e)=>match Zs P e with
   |some j=>j.sh.isAgg=false/\j.size=1/\len=cs.length/\0<=n/\n.toNat<len/\K (cs.getD n.toNat .junk)
   |none=>False
  |_=>False
 |_,_=>False
def ZDs (P:Program)(t:TypeId)(x:AV)(f:Nat)(K:AV->Prop):Prop:=
 match x,P.underlying t with
 | .agg cs,some (.struct fs)=>match fs[f]? with
  |some d=>match Zs P d.type with
   |some j=>j.sh.isAgg=false/\d.offset<cs.length/\K (cs.getD d.offset .junk)
   |none=>False
  |none=>False
 |_,_=>False
def ZLH (P:Program)(t:TypeId)(σ:ZE)(x:AV)(K:AV->Prop):Prop:=
 match P.underlying t with
 |some (.slice _)=>match x with
  | .arr es=>K (.lit (.int .i64 es.length))
  | .lit (.slice none 0 0)=>K (.lit (.int .i64 0))
  | .own l k=>K (.lit (.int .i64 k))
  |_=>False
 |some .string=>match x with
  | .lit (.string s)=>K (.lit (.int .i64 s.size))
  |_=>False
 |some (.array n _)=>K (.lit (.int .i64 n))
 |_=>False
def ZC0 (σ:ZE)(x:AV)(K:List (List AV)->Prop):Prop:=
 match x with
 | .arr es=>K es
 | .lit (.slice none 0 0)=>K []
 | .lit (.slice (some _) 0 _)=>K []
 | .own l k=>match σ[l]? with
  |some (.elems _ es)=>es.length=k/\K es
  |_=>False
 |_=>False
def AV.pure :AV->Prop
 | .lit _| .junk| .arr _| .rptr _ _=>True
 | .agg cs=>pures cs
 | .tup cs=>pures cs
 | .fn _ xs ys=>pures xs/\pures ys
 |_=>False
where pures:List AV->Prop
 | []=>True
 |x::r=>x.pure/\pures r
def ZCC (P:Program)(B:Nat)(t t2:TypeId)(σ:ZE)(s x:AV)(K:AV->ZE->Prop):Prop:=
 match Zs P t,P.underlying t2 with
 |some ⟨.slice sz bytes zs,_,_⟩,some (.slice _)=>
  zs.length=sz/\sz≠0/\bytes≠0/\ZC0 σ x fun new=>(∀e,e∈new->e.length=sz)/\(∀e,e∈new->Zf σ e)/\
   match s with
   | .lit (.slice none 0 0)=>new.length<=bd B/\(2*new.length+1024)*bytes<=281474976710656/\
     K (.own σ.length new.length) (σ++[.elems sz new])
   | .own l n=>match σ[l]? with
    |some (.elems sz' es)=>es.length=n/\sz'=sz/\n+new.length<=bd B/\(2*(n+new.length)+1024)*bytes<=281474976710656/\
      K (.own l (n+new.length)) (σ.set l (.elems sz (es++new)))
    |_=>False
   |_=>False
 |_,_=>False
end Go.Vl
namespace Go.Vl
open Go
variable {b:Nat}{ccs:Array Value}{ty:TypeId}
theorem ZF6 {w:World}{o:Nat}(h:w.heap[b]? =some (.cells ccs ty (0,0))):
  w.frozen? ⟨b,o,none⟩=false:=by simp[World.frozen?,h]
theorem ZBL {w:World}{o:Nat}(h:w.heap[b]? =some (.cells ccs ty (0,0))):
  w.cell? ⟨b,o,none⟩=ccs[o]? :=by simp[World.cell?,h]
theorem ZBw (b o n:Nat):(Addr.add ⟨b,o,none⟩ n)=⟨b,o+n,none⟩:=by
 unfold Addr.add;split
 ·next h=>subst h;rfl
 ·rfl
def ZAI (w:World)(b:Nat)(ccs:Array Value)(ty:TypeId):World:={w with heap:=w.heap.setIfInBounds b (.cells ccs ty (0,0))}
variable {ccs':Array Value}
theorem ZAl {w:World}(h:w.heap[b]? =some (.cells ccs ty (0,0))):
  (ZAI w b ccs' ty).heap[b]? =some (.cells ccs' ty (0,0)):=by
 have hb:=(zF.1 h).1
 simp[ZAI,hb]
theorem ZAV {w:World}{b':Nat}(h:b'≠b):
  (ZAI w b ccs' ty).heap[b']? =w.heap[b']? :=by
 simp[ZAI,Ne.symm h]
theorem ZGO (w:World)(b:Nat)(ccs:Array Value)(ty:TypeId):(ZAI w b ccs ty).heap.size=w.heap.size:=by simp[ZAI]
theorem ZIy {w:World}(h:w.heap[b]? =some (.cells ccs ty (0,0))):ZAI w b ccs ty=w:=by
 unfold ZAI
 obtain⟨hb,he⟩:=zF.1 h
 have:w.heap.setIfInBounds b (.cells ccs ty (0,0))=w.heap:=by
  apply zH
  intro i
  rw[zG]
  split
  ·next e=>subst e;simp[hb,←he]
  ·rfl
 rw[this]
theorem ZHw {w:World}{c1 c2:Array Value}:ZAI (ZAI w b c1 ty) b c2 ty=ZAI w b c2 ty:=by
 unfold ZAI;simp
theorem ZGE {w:World}{o:Nat}(h:w.heap[b]? =some (.cells ccs ty (0,0)))(v:Value):
  w.setCell ⟨b,o,none⟩ v=ZAI w b (ccs.setIfInBounds o v) ty:=by
 unfold World.setCell ZAI
 congr 1
 apply zH
 intro i
 rw[zG,Array.getElem?_modify]
 obtain⟨hb,he⟩:=zF.1 h
 by_cases e:b=i
 ·subst e;simp[hb,he]
 ·simp[e]
def wrArr (ccs:Array Value)(o:Nat):List Value->Array Value
 | []=>ccs
 |v::r=>wrArr (ccs.setIfInBounds o v) (o+1) r
theorem Zt (o:Nat)(vs:List Value):∀ccs:Array Value,(wrArr ccs o vs).size=ccs.size:=by
 induction vs generalizing o with
 |nil=>intro;rfl
 |cons v r ih=>intro ccs;simp[wrArr,ih]
theorem ZA2 (vs:List Value):∀(o:Nat) (ccs:Array Value) (j:Nat),o+vs.length<=ccs.size->
  (wrArr ccs o vs)[j]? =if o<=j/\j<o+vs.length then vs[j-o]? else ccs[j]? :=by
 induction vs with
 |nil=>intro o ccs j _;simp only[wrArr,List.length_nil];rw[iN (by omega)]
 |cons v r ih=>
  intro o ccs j h
  simp only[zJ]at h ⊢
  rw[wrArr,ih (o+1) _ j (by simp;omega)]
  by_cases h1:o+1<=j/\j<o+1+r.length
  ·rw[iP h1,iP (by omega)]
   obtain⟨k,hk⟩:∃k,j-o=k+1:=⟨j-o-1,by omega⟩
   rw[hk,List.getElem?_cons_succ];congr 1;omega
  ·rw[iN h1]
   by_cases h2:j=o
   ·subst h2;rw[iP (by omega),Array.getElem?_setIfInBounds_self_of_lt (by omega)];simp
   ·rw[iN (by omega),zG,iN (Ne.symm h2)]
theorem ZA0 {P:Program}(b:Nat)(ty:TypeId)(o:Nat):∀(vs:List Value) (w:World) (ccs:Array Value) (i:Nat),
  w.heap[b]? =some (.cells ccs ty (0,0))->(∀v,v∈vs->v.oneCell'=true)->o+i+vs.length<=ccs.size->
  (storeCells ⟨b,o,none⟩ vs i).run P w=.ok () (ZAI w b (wrArr ccs (o+i) vs) ty):=by
 intro vs
 induction vs with
 |nil=>intro w ccs i h _ _;simp[storeCells,wrArr,ZIy h]
 |cons v r ih=>
  intro w ccs i h h1 h2
  simp only[zJ]at h2
  have hc:w.cell? ⟨b,o+i,none⟩=some (ccs[o+i]'(by omega)):=by rw[ZBL h];simp
  simp only[storeCells,Sem.run_bind,ZBw]
  rw[run_store P w _ v .plain (h1 v (List.mem_cons_self ..)),hc]
  simp only[ZF6 h,Bool.false_eq_true,if_false,Result.andThen,ZGE h]
  rw[ih _ (ccs.setIfInBounds (o+i) v) (i+1) (ZAl h) (fun x hx=>h1 x (List.mem_cons_of_mem _ hx)) (by simp;omega),ZHw]
  rfl
variable {B:Nat}{m:Map}{σ:ZE}{w':World}
theorem Sim.upd {w:World}(h:Sim B m σ w){m':Map}(hf:Fr m w m' w')(l0:Nat){σ':ZE}(hn:m'.n=σ'.length)(hold:∀l,l≠l0->σ'[l]? =σ[l]?/\m'.f l=m.f l)(hph:∀l b,l≠l0->(m.f l).has b->w'.heap[b]? =w.heap[b]?)(hnew:ZAc B m' w' (m'.f l0) σ'[l0]?)(hinj:∀l b,l≠l0->(m.f l).has b->¬(m'.f l0).has b):Sim B m' σ' w' where
 n:=hn
 blk l:=by
  by_cases e:l=l0
  ·subst e;exact hnew
  ·obtain⟨h1,h2⟩:=hold l e
   rw[h1,h2]
   have hb:=h.blk l
   cases hσ:σ[l]? with
   |none=>rw[hσ]at hb;exact hb
   |some k=>
    rw[hσ]at hb
    cases k with
    |dead=>exact hb
    |tcells ot cs=>
     obtain⟨b,ccs,ty,g1,g2,g3,g4⟩:=hb
     refine⟨b,ccs,ty,g1,?_,g3,fun i x hx=> ?_⟩
     ·rw[hph l b e (by simp[g1,MS.has]),g2]
     ·obtain⟨y,hy,hc⟩:=g4 i x hx
      exact⟨y,hy,hc.mono hf⟩
    |telems oe sz es=>
     obtain⟨g0,g0',hb⟩:=hb
     refine⟨g0,g0',?_⟩
     rcases hb with hb|⟨b,ccs,ty,g1,g2,g3,g4⟩
     ·exact .inl hb
     ·refine .inr ⟨b,ccs,ty,g1,?_,g3,fun i e' k x hi hk=> ?_⟩
      ·rw[hph l b e (by simp[g1,MS.has]),g2]
      ·obtain⟨y,hy,hc⟩:=g4 i e' k x hi hk
       exact⟨y,hy,hc.mono hf⟩
    |pack xs vs=>
     obtain⟨F,g1,g2,g3⟩:=hb
     exact⟨F,g1,g2,g3.keep fun b hb=>hph l b e (by rw[g1];exact hb)⟩
 inj l l' b h1 h2:=by
  by_cases e:l=l0<;>by_cases e':l'=l0
  ·rw[e,e']
  ·subst e
   rw[(hold l' e').2]at h2
   exact absurd h1 (hinj l' b e' h2)
  ·subst e'
   rw[(hold l e).2]at h1
   exact absurd h2 (hinj l b e h1)
  ·rw[(hold l e).2]at h1;rw[(hold l' e').2]at h2
   exact h.inj l l' b h1 h2
 sep b hb ha:=by
  rw[hf.av]at ha
  rcases hf.fresh b hb with h1|h1
  ·exact h.sep b h1 ha
  ·have:=h.avlt b ha;omega
 avlt b ha:=by
  rw[hf.av]at ha
  exact zC (h.avlt b ha) hf.size
 tb:=TbOk.fr h hf
variable {l:Nat}
theorem Sim.lt_of_blk {w:World}(h:Sim B m σ w)(hb:(m.f l).has b):b<w.heap.size:=
 (h.mapOk b ⟨l,hb⟩).1
theorem Sim.dead_of_ge {w:World}(h:Sim B m σ w)(hl:σ.length<=l):m.f l=.dead:=by
 have:=h.blk l
 rw[zI hl]at this
 exact this
def Map.push (m:Map)(s:MS):Map:=⟨fun l=>if l=m.n then s else m.f l,m.n+1,m.av⟩
theorem Map.push_old (m:Map)(s:MS)(h:l≠m.n):(m.push s).f l=m.f l:=by simp[Map.push,h]
theorem Map.push_new (m:Map)(s:MS):(m.push s).f m.n=s:=by simp[Map.push]
theorem Fr.push {w:World}(_h:Sim B m σ w)(s:MS)(hsize:w.heap.size<=w'.heap.size)(hk:∀b,b<w.heap.size->w'.heap[b]? =w.heap[b]?)(hs:∀b,s.has b->w.heap.size<=b)(h1:w'.tape=w.tape)(h2:w'.os=w.os)(h3:w'.output=w.output):Fr m w (m.push s) w' where
 size:=hsize
 keep b hb _:=hk b hb
 phys b ccs ty _ _ hh:=⟨ccs,by rw[hk b (zF.1 hh).1,hh],rfl⟩
 fresh b:=by
  rintro⟨l,hl⟩
  by_cases e:l=m.n
  ·subst e;rw[Map.push_new]at hl;exact .inr (hs b hl)
  ·rw[Map.push_old m s e]at hl;exact .inl ⟨l,hl⟩
 ids l hl:=by rw[Map.push_old m s (by omega)];exact .inl rfl
 n:=by simp[Map.push]
 av:=rfl
 tape:=h1
 os:=h2
 output:=h3
theorem ZCj {x:Blk}(h:l≠σ.length):(σ++[x])[l]? =σ[l]? :=by
 by_cases hl:l<σ.length
 ·rw[List.getElem?_append_left hl]
 ·rw[zI (by simp;omega),zI (by omega)]
theorem ZCk (σ:ZE)(x:Blk):(σ++[x])[σ.length]? =some x:=by simp
theorem Sim.push {w:World}(h:Sim B m σ w)(s:MS)(x:Blk)(hf:Fr m w (m.push s) w')(hk:∀b,b<w.heap.size->w'.heap[b]? =w.heap[b]?)(hs:∀b,s.has b->w.heap.size<=b)(hx:ZAc B (m.push s) w' s (some x)):Sim B (m.push s) (σ++[x]) w':=by
 refine h.upd hf σ.length (by simp[Map.push,h.n]) (fun l hl=>⟨ZCj hl,Map.push_old m s (by rw[h.n];exact hl)⟩)
  (fun l b _ hb=>hk b (h.lt_of_blk hb)) ?_ ?_
 ·rw[ZCk,←h.n,Map.push_new];exact hx
 ·intro l b _ hb hb'
  rw[←h.n,Map.push_new]at hb'
  have:=hs b hb';have:=h.lt_of_blk hb;omega
theorem ZCV (w:World)(o:Obj)(h:b<w.heap.size):(w.alloc o).heap[b]? =w.heap[b]? :=by
 show(w.heap.push o)[b]? =_
 rw[Array.getElem?_push,iN (by omega)]
theorem ZBB (w:World)(o:Obj):(w.alloc o).heap[w.heap.size]? =some o:=by
 show(w.heap.push o)[w.heap.size]? =_
 simp
theorem Sim.boxT {w:World}(h:Sim B m σ w)(cs:List AV)(us:Array Value)(ty:TypeId)(ot:Option TypeId)(hot:∀T,ot=some T->ty=T/\ZO5 w.heap.size us)(hlen:us.size=cs.length)(hx:∀i x,cs[i]? =some x->Conc B (Av m) w m x (us.getD i undef)):
  Fr m w (m.push (.box w.heap.size)) (w.alloc (.cells us ty))/\
  Sim B (m.push (.box w.heap.size)) (σ++[.tcells ot cs]) (w.alloc (.cells us ty)):=by
 have hs:∀b,(MS.box w.heap.size).has b->w.heap.size<=b:=by intro b hb;simp[MS.has]at hb;omega
 have hf:Fr m w (m.push (.box w.heap.size)) (w.alloc (.cells us ty)):=
  Fr.push h _ (by simp) (fun b hb=>ZCV w _ hb) hs rfl rfl rfl
 refine⟨hf,h.push _ _ hf (fun b hb=>ZCV w _ hb) hs ⟨w.heap.size,us,⟨ty,hot⟩,rfl,ZBB w _,hlen,fun i x hi=> ?_⟩⟩
 have hi':i<us.size:=by rw[hlen];exact(List.getElem?_eq_some_iff.1 hi).1
 refine⟨us[i],by simp[hi'],?_⟩
 have:=(hx i x hi).mono hf
 rwa[Array.getD_eq_getD_getElem?,Array.getElem?_eq_getElem hi',Option.getD_some]at this
theorem Sim.box {w:World}(h:Sim B m σ w)(cs:List AV)(us:Array Value)(ty:TypeId)(hlen:us.size=cs.length)(hx:∀i x,cs[i]? =some x->Conc B (Av m) w m x (us.getD i undef)):
  Fr m w (m.push (.box w.heap.size)) (w.alloc (.cells us ty))/\
  Sim B (m.push (.box w.heap.size)) (σ++[.cells cs]) (w.alloc (.cells us ty)):=h.boxT cs us ty none (fun _ h=>nomatch h) hlen hx
theorem Sim.elems {w:World}(h:Sim B m σ w)(sz:Nat)(es:List (List AV))(us:Array Value)(ty:TypeId)(hw:w'=w∨w'=w.drew)(hsz:∀e,e∈es->e.length=sz)(hB:es.length<=bd B)(hlen:es.length*sz<=us.size)(hx:∀i e k x,es[i]? =some e->e[k]? =some x->∃y,us[i*sz+k]? =some y/\Conc B (Av m) w m x y):
  Fr m w (m.push (.arr w.heap.size sz es.length)) (w'.alloc (.cells us ty))/\
  Sim B (m.push (.arr w.heap.size sz es.length)) (σ++[.elems sz es]) (w'.alloc (.cells us ty)):=by
 have hs:∀b,(MS.arr w.heap.size sz es.length).has b->w.heap.size<=b:=by intro b hb;simp[MS.has]at hb;omega
 have hsame:w'.heap=w.heap/\w'.tape=w.tape/\w'.os=w.os/\w'.output=w.output:=by
  rcases hw with rfl|rfl<;>exact⟨rfl,rfl,rfl,rfl⟩
 obtain⟨e1,e2,e3,e4⟩:=hsame
 have hk:∀b,b<w.heap.size->(w'.alloc (.cells us ty)).heap[b]? =w.heap[b]? :=fun b hb=>by
  rw[ZCV w' _ (by rw[e1];exact hb),e1]
 have hf:Fr m w (m.push (.arr w.heap.size sz es.length)) (w'.alloc (.cells us ty)):=
  Fr.push h _ (by simp[e1]) hk hs e2 e3 e4
 have hnew:(w'.alloc (.cells us ty)).heap[w.heap.size]? =some (.cells us ty (0,0)):=by
  have:=ZBB w' (.cells us ty (0,0));rwa[e1]at this
 refine⟨hf,h.push _ _ hf hk hs ⟨hsz,hB,.inr ⟨w.heap.size,us,ZOo ty,rfl,hnew,hlen,fun i e k x hi hk=> ?_⟩⟩⟩
 obtain⟨y,hy,hc⟩:=hx i e k x hi hk
 exact⟨y,hy,hc.mono hf⟩
theorem Fr.put {w:World}(hl:(m.f l).has b)(hh:w.heap[b]? =some (.cells ccs ty (0,0)))(hs:ccs'.size=ccs.size)(m':Map)(hm:∀b',Wr m' b'->Wr m b')(hids:∀l,l<m.n->(m.f l).le (m'.f l))(hn:m.n<=m'.n)(hav:m'.av=m.av):Fr m w m' (ZAI w b ccs' ty)where
 size:=by rw[ZGO];exact zB _
 keep b' _ hn:=ZAV (fun e=>hn (e▸ ⟨l,hl⟩))
 phys b' c t _ _ hh':=by
  by_cases e:b'=b
  ·subst e
   rw[hh]at hh';obtain⟨rfl,rfl,_⟩:=Obj.cells.inj (zA hh')
   exact⟨ccs',ZAl hh,hs⟩
  ·exact⟨c,by rw[ZAV e,hh'],rfl⟩
 fresh b' hb:=.inl (hm b' hb)
 ids:=hids
 n:=hn
 av:=hav
 tape:=rfl
 os:=rfl
 output:=rfl
end Go.Vl
