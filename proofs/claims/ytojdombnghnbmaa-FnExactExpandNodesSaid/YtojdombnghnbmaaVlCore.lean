/- The value-level layer, part 1: abstract values, the abstract store, and the relation to the world. -/
import Derived.WalkKit
set_option linter.unusedSimpArgs false
set_option linter.unusedVariables false
namespace Go.Vl
open Go
def bd (B:Nat):Nat:=B%18446744073709551616
def tbOf (B:Nat):Option Nat:=if B/18446744073709551616=0 then none else some (B/18446744073709551616-1)
inductive AV where
 |lit (v:Value)
 |junk
 |arr (es:List (List AV))
 |rptr (e:List AV) (off:Nat)
 |own (l n:Nat)
 |pre (l n k:Nat)
 |ptr (l off:Nat)
 |eptr (l n i off:Nat)
 |agg (cs:List AV)
 |tup (vs:List AV)
 |fn (f:Fn) (first cap:List AV)
 deriving Inhabited
inductive Blk where
 |dead
 |tcells (ty:Option TypeId) (cs:List AV)
 |telems (ty:Option TypeId) (sz:Nat) (es:List (List AV))
 |pack (xs:List AV) (vs:List Value)
 deriving Inhabited
@[reducible, match_pattern] def Blk.cells (cs:List AV):Blk:=.tcells none cs
@[reducible, match_pattern] def Blk.elems (sz:Nat)(es:List (List AV)):Blk:=.telems none sz es
abbrev Store :=List Blk
inductive MS where
 |dead
 |box (b:Nat)
 |nil
 |arr (b sz len:Nat)
 |pack (F:List Nat)
def MS.isPack :MS→Prop
 | .pack _=>True
 |_=>False
structure Map where
 f:Nat→MS
 n:Nat
 av:Nat→Prop
def M0 :Map:=⟨fun _=>.dead,0,fun _=>False⟩
def MS.len :MS→Option Nat
 | .nil=>some 0
 | .arr _ _ k=>some k
 |_=>none
def MS.has :MS→Nat→Prop
 | .box c,b=>c=b
 | .arr c _ _,b=>c=b
 | .pack F,b=>b∈F
 |_,_=>False
def Wr (m:Map)(b:Nat):Prop:=∃l,(m.f l).has b
def Av (m:Map)(b:Nat):Prop:=Wr m b∨m.av b
inductive Conc (B:Nat)(W:Nat→Prop)(w:World):Map→AV→Value→Prop
 |lit {m} (v:Value):Conc B W w m (.lit v) v
 |junk {m} (v:Value):Conc B W w m .junk v
 |arr {m} (es:List (List AV)) (b off sz cap:Nat) (ys:Nat→Nat→Value)
   (hB:es.length≤bd B) (hsz:∀e,e∈es→e.length=sz) (hW:¬W b) (hb:b<w.heap.size) (hcap:es.length≤cap)
   (hc:∀i e k x,es[i]? =some e→e[k]? =some x→w.cell? ⟨b,off+i*sz+k,none⟩=some (ys i k))
   (hx:∀i e k x,es[i]? =some e→e[k]? =some x→Conc B W w M0 x (ys i k)):
   Conc B W w m (.arr es) (.slice (some ⟨b,off,none⟩) es.length cap)
 |arrNil {m} (a:Option Addr) (cap:Nat):Conc B W w m (.arr []) (.slice a 0 cap)
 |rptr {m} (e:List AV) (off b o:Nat) (ys:Nat→Value)
   (hW:¬W b) (hb:b<w.heap.size)
   (hc:∀k x,e[k]? =some x→w.cell? ⟨b,o+k,none⟩=some (ys k))
   (hx:∀k x,e[k]? =some x→Conc B W w M0 x (ys k)):
   Conc B W w m (.rptr e off) (.pointer (some ⟨b,o+off,none⟩))
 |ownOther {m} (l n:Nat) (a:Option Addr) (cap:Nat) (hl:l<m.n) (h:∀k,(m.f l).len=some k→n<k) (hcap:n≤cap):Conc B W w m (.own l n) (.slice a n cap)
 |ownNil {m} (l:Nat) (a:Option Addr) (hl:l<m.n) (h:m.f l=.nil):Conc B W w m (.own l 0) (.slice a 0 0)
 |ownArr {m} (l b sz len cap:Nat) (ccs:Array Value) (ty:TypeId) (hl:l<m.n) (h:m.f l=.arr b sz len)
   (hh:w.heap[b]? =some (.cells ccs ty (0,0))) (hcap:cap*sz≤ccs.size) (hlen:len≤cap) (hz:len=0→cap=0):
   Conc B W w m (.own l len) (.slice (some ⟨b,0,none⟩) len cap)
 |preOther {m} (l n k:Nat) (v:Value) (hl:l<m.n) (h:∀k,(m.f l).len=some k→n<k):Conc B W w m (.pre l n k) v
 |preNil {m} (l:Nat) (a:Option Addr) (hl:l<m.n) (h:m.f l=.nil):Conc B W w m (.pre l 0 0) (.slice a 0 0)
 |preArr {m} (l b sz len k cap:Nat) (ccs:Array Value) (ty:TypeId) (hl:l<m.n) (h:m.f l=.arr b sz len) (hk:k≤len)
   (hh:w.heap[b]? =some (.cells ccs ty (0,0))) (hcap:cap*sz≤ccs.size) (hlen:len≤cap):
   Conc B W w m (.pre l len k) (.slice (some ⟨b,0,none⟩) k cap)
 |ptrOther {m} (l off:Nat) (v:Value) (hl:l<m.n) (h:∀b,m.f l≠.box b):Conc B W w m (.ptr l off) v
 |ptrBox {m} (l off b:Nat) (hl:l<m.n) (h:m.f l=.box b):Conc B W w m (.ptr l off) (.pointer (some ⟨b,off,none⟩))
 |eptrOther {m} (l n i off:Nat) (v:Value) (hl:l<m.n) (h:∀k,(m.f l).len=some k→n<k):Conc B W w m (.eptr l n i off) v
 |eptrArr {m} (l n i off b sz:Nat) (hl:l<m.n) (h:m.f l=.arr b sz n):Conc B W w m (.eptr l n i off) (.pointer (some ⟨b,i*sz+off,none⟩))
 |agg {m} (cs:List AV) (us:Array Value) (hlen:us.size=cs.length)
   (hx:∀i x,cs[i]? =some x→Conc B W w m x (us.getD i undef)):Conc B W w m (.agg cs) (.agg us)
 |tup {m} (cs:List AV) (us:Array Value) (hlen:us.size=cs.length)
   (hx:∀i x,cs[i]? =some x→Conc B W w m x (us.getD i undef)):Conc B W w m (.tup cs) (.tuple us)
 |fn {m} (f:Fn) (xs ys:List AV) (us vs:Array Value) (hlen:us.size=xs.length) (hlen2:vs.size=ys.length)
   (hx:∀i x,xs[i]? =some x→Conc B W w m x (us.getD i undef))
   (hy:∀i x,ys[i]? =some x→Conc B W w m x (vs.getD i undef)):Conc B W w m (.fn f xs ys) (.func f us vs)
def MS.le (s s':MS):Prop:=s'=s∨s'=.dead∨(∃k k',s.len=some k∧s'.len=some k'∧k<k')∨(s.isPack∧s'.isPack)
theorem MS.le_refl (s:MS):s.le s:=.inl rfl
theorem MS.pack_len {s:MS}(h:s.isPack):s.len=none:=by cases s<;>first|rfl|exact h.elim
theorem MS.le_trans {a b c:MS}(h:a.le b)(h':b.le c):a.le c:=by
 rcases h with rfl|rfl|⟨k,k',h1,h2,h3⟩|⟨h1,h2⟩
 ·exact h'
 ·rcases h' with rfl|rfl|⟨k,k',h1,_,_⟩|⟨h1,_⟩
  ·exact .inr (.inl rfl)
  ·exact .inr (.inl rfl)
  ·simp[MS.len]at h1
  ·exact h1.elim
 ·rcases h' with rfl|rfl|⟨j,j',g1,g2,g3⟩|⟨g1,_⟩
  ·exact .inr (.inr (.inl ⟨k,k',h1,h2,h3⟩))
  ·exact .inr (.inl rfl)
  ·rw[h2]at g1;obtain rfl:=Option.some.inj g1
   exact .inr (.inr (.inl ⟨k,j',h1,g2,by omega⟩))
  ·rw[MS.pack_len g1]at h2;cases h2
 ·rcases h' with rfl|rfl|⟨j,j',g1,g2,g3⟩|⟨g1,g2⟩
  ·exact .inr (.inr (.inr ⟨h1,h2⟩))
  ·exact .inr (.inl rfl)
  ·rw[MS.pack_len h2]at g1;cases g1
  ·exact .inr (.inr (.inr ⟨h1,g2⟩))
theorem MS.le_box {s s':MS}{b:Nat}(h:s.le s')(hb:s'=.box b):s=.box b:=by
 subst hb
 rcases h with h|h|⟨k,k',_,h2,_⟩|⟨_,h2⟩
 ·exact h.symm
 ·cases h
 ·simp[MS.len]at h2
 ·exact h2.elim
structure Fr (m:Map)(w:World)(m':Map)(w':World):Prop where
 size:w.heap.size≤w'.heap.size
 keep:∀b,b<w.heap.size→¬Wr m b→w'.heap[b]? =w.heap[b]?
 phys:∀b ccs ty,Wr m b→Wr m' b→w.heap[b]? =some (.cells ccs ty (0,0))→∃ccs',w'.heap[b]? =some (.cells ccs' ty (0,0))∧ccs'.size=ccs.size
 fresh:∀b,Wr m' b→Wr m b∨w.heap.size≤b
 ids:∀l,l<m.n→(m.f l).le (m'.f l)
 n:m.n≤m'.n
 av:m'.av=m.av
 tape:w'.tape=w.tape
 os:w'.os=w.os
 output:w'.output=w.output
theorem Fr.refl (m:Map)(w:World):Fr m w m w:=
 ⟨Nat.le_refl _,fun _ _ _=>rfl,fun _ ccs _ _ _ h=>⟨ccs,h,rfl⟩,fun _ h=>.inl h,fun _ _=>.inl rfl,Nat.le_refl _,rfl,rfl,rfl,rfl⟩
def MapOk (m:Map)(w:World):Prop:=∀b,Wr m b→b<w.heap.size∧∃ccs ty,w.heap[b]? =some (.cells ccs ty (0,0))
theorem Fr.trans {m m' m'':Map}{w w' w'':World}(h:Fr m w m' w')(h':Fr m' w' m'' w'')(_hok:MapOk m w):Fr m w m'' w'' where
 size:=Nat.le_trans h.size h'.size
 keep b hb hn:=by
  have hb':b<w'.heap.size:=Nat.lt_of_lt_of_le hb h.size
  have hn':¬Wr m' b:=fun hw=>(h.fresh b hw).elim hn (by omega)
  rw[h'.keep b hb' hn',h.keep b hb hn]
 phys b ccs ty hw hw2 hh:=by
  have hb:b<w.heap.size:=(Array.getElem?_eq_some_iff.1 hh).1
  have hw':Wr m' b:=(h'.fresh b hw2).resolve_right (by have:=h.size;omega)
  obtain⟨ccs',h1,h2⟩:=h.phys b ccs ty hw hw' hh
  obtain⟨ccs'',h3,h4⟩:=h'.phys b ccs' ty hw' hw2 h1
  exact⟨ccs'',h3,by omega⟩
 fresh b hb:=by
  rcases h'.fresh b hb with hb|hb
  ·exact h.fresh b hb
  ·exact .inr (Nat.le_trans h.size hb)
 ids l hl:=MS.le_trans (h.ids l hl) (h'.ids l (Nat.lt_of_lt_of_le hl h.n))
 n:=Nat.le_trans h.n h'.n
 av:=h'.av.trans h.av
 tape:=h'.tape.trans h.tape
 os:=h'.os.trans h.os
 output:=h'.output.trans h.output
theorem cell_of_heap {w w':World}{b:Nat}(h:w'.heap[b]? =w.heap[b]?)(o:Nat):w'.cell? ⟨b,o,none⟩=w.cell? ⟨b,o,none⟩:=by
 simp[World.cell?,h]
theorem Conc.mono' {B:Nat}{W W':Nat→Prop}{w w':World}(hsize:w.heap.size≤w'.heap.size)
  (hkeep:∀b,b<w.heap.size→¬W b→w'.heap[b]? =w.heap[b]?) (hW:∀b,b<w.heap.size→W' b→W b)
  {m:Map} {x:AV} {y:Value} (h:Conc B W w m x y):
  ∀m':Map,(∀l,l<m.n→(m.f l).le (m'.f l))→m.n≤m'.n→
   (∀l b sz len ccs ty,l<m.n→m.f l=.arr b sz len→m'.f l=.arr b sz len→w.heap[b]? =some (.cells ccs ty (0,0))→∃ccs',w'.heap[b]? =some (.cells ccs' ty (0,0))∧ccs'.size=ccs.size)→
   Conc B W' w' m' x y:=by
 induction h with
 |lit v=>intro m' _ _ _;exact .lit v
 |junk v=>intro m' _ _ _;exact .junk v
 |arr es b off sz cap ys hB hsz hWb hb hcap hc hx ih=>
  intro m' _ _ _
  refine .arr es b off sz cap ys hB hsz (fun hw=>hWb (hW b hb hw)) (by omega) hcap ?_ ?_
  ·intro i e k x h1 h2;rw[cell_of_heap (hkeep b hb hWb)];exact hc i e k x h1 h2
  ·intro i e k x h1 h2;exact ih i e k x h1 h2 M0 (fun l hl=>absurd hl (Nat.not_lt_zero _)) (Nat.le_refl _) (fun l _ _ _ _ _ hl=>absurd hl (Nat.not_lt_zero _))
 |arrNil a cap=>intro m' _ _ _;exact .arrNil a cap
 |rptr e off b o ys hWb hb hc hx ih=>
  intro m' _ _ _
  refine .rptr e off b o ys (fun hw=>hWb (hW b hb hw)) (by omega) ?_ ?_
  ·intro k x h1;rw[cell_of_heap (hkeep b hb hWb)];exact hc k x h1
  ·intro k x h1;exact ih k x h1 M0 (fun l hl=>absurd hl (Nat.not_lt_zero _)) (Nat.le_refl _) (fun l _ _ _ _ _ hl=>absurd hl (Nat.not_lt_zero _))
 |preOther l n k0 v hl h=>
  intro m' hids hn hph
  refine .preOther l n k0 v (by omega) ?_
  intro k hk
  rcases hids l hl with h'|h'|⟨k1,k2,h1,h2,h3⟩|⟨_,h2⟩
  ·rw[h']at hk;exact h k hk
  ·rw[h']at hk;simp[MS.len]at hk
  ·rw[h2]at hk;obtain rfl:=Option.some.inj hk
   have:=h _ h1;omega
  ·rw[MS.pack_len h2]at hk;cases hk
 |preNil l a hl h=>
  intro m' hids hn hph
  rcases hids l hl with h'|h'|⟨k1,k2,h1,h2,h3⟩|⟨h1,_⟩
  rotate_right
  ·rw[h]at h1;exact h1.elim
  ·exact .preNil l a (by omega) (h'.trans h)
  ·exact .preOther l 0 0 _ (by omega) (by rw[h'];simp[MS.len])
  ·rw[h]at h1;obtain rfl:=Option.some.inj h1
   exact .preOther l 0 0 _ (by omega) (by rw[h2];intro k hk;obtain rfl:=Option.some.inj hk;exact h3)
 |preArr l b sz len k0 cap ccs ty hl h hk0 hh hcap hlen=>
  intro m' hids hn hph
  rcases hids l hl with h'|h'|⟨k1,k2,h1,h2,h3⟩|⟨h1,_⟩
  rotate_right
  ·rw[h]at h1;exact h1.elim
  ·obtain⟨ccs',g1,g2⟩:=hph l b sz len ccs ty hl h (h'.trans h) hh
   exact .preArr l b sz len k0 cap ccs' ty (by omega) (h'.trans h) hk0 g1 (by omega) hlen
  ·exact .preOther l len k0 _ (by omega) (by rw[h'];simp[MS.len])
  ·rw[h]at h1;obtain rfl:=Option.some.inj h1
   exact .preOther l _ k0 _ (by omega) (by rw[h2];intro k hk;obtain rfl:=Option.some.inj hk;exact h3)
 |ownOther l n a cap hl h hcap=>
  intro m' hids hn hph
  refine .ownOther l n a cap (by omega) ?_ hcap
  intro k hk
  rcases hids l hl with h'|h'|⟨k1,k2,h1,h2,h3⟩|⟨_,h2⟩
  ·rw[h']at hk;exact h k hk
  ·rw[h']at hk;simp[MS.len]at hk
  ·rw[h2]at hk;obtain rfl:=Option.some.inj hk
   have:=h _ h1;omega
  ·rw[MS.pack_len h2]at hk;cases hk
 |ownNil l a hl h=>
  intro m' hids hn hph
  rcases hids l hl with h'|h'|⟨k1,k2,h1,h2,h3⟩|⟨h1,_⟩
  rotate_right
  ·rw[h]at h1;exact h1.elim
  ·exact .ownNil l a (by omega) (h'.trans h)
  ·exact .ownOther l 0 _ _ (by omega) (by rw[h'];simp[MS.len]) (Nat.le_refl _)
  ·rw[h]at h1;obtain rfl:=Option.some.inj h1
   exact .ownOther l 0 _ _ (by omega) (by rw[h2];intro k hk;obtain rfl:=Option.some.inj hk;exact h3) (Nat.le_refl _)
 |ownArr l b sz len cap ccs ty hl h hh hcap hlen hz=>
  intro m' hids hn hph
  rcases hids l hl with h'|h'|⟨k1,k2,h1,h2,h3⟩|⟨h1,_⟩
  rotate_right
  ·rw[h]at h1;exact h1.elim
  ·obtain⟨ccs',g1,g2⟩:=hph l b sz len ccs ty hl h (h'.trans h) hh
   exact .ownArr l b sz len cap ccs' ty (by omega) (h'.trans h) g1 (by omega) hlen hz
  ·exact .ownOther l len _ _ (by omega) (by rw[h'];simp[MS.len]) hlen
  ·rw[h]at h1;obtain rfl:=Option.some.inj h1
   exact .ownOther l _ _ _ (by omega) (by rw[h2];intro k hk;obtain rfl:=Option.some.inj hk;exact h3) hlen
 |ptrOther l off v hl h=>
  intro m' hids hn hph
  exact .ptrOther l off v (by omega) fun b hb=>h b (MS.le_box (hids l hl) hb)
 |ptrBox l off b hl h=>
  intro m' hids hn hph
  rcases hids l hl with h'|h'|⟨k1,k2,h1,h2,h3⟩|⟨h1,_⟩
  rotate_right
  ·rw[h]at h1;exact h1.elim
  ·exact .ptrBox l off b (by omega) (h'.trans h)
  ·exact .ptrOther l off _ (by omega) (by rw[h'];intro b hb;cases hb)
  ·rw[h]at h1;simp[MS.len]at h1
 |eptrOther l n i off v hl h=>
  intro m' hids hn hph
  refine .eptrOther l n i off v (by omega) ?_
  intro k hk
  rcases hids l hl with h'|h'|⟨k1,k2,h1,h2,h3⟩|⟨_,h2⟩
  ·rw[h']at hk;exact h k hk
  ·rw[h']at hk;simp[MS.len]at hk
  ·rw[h2]at hk;obtain rfl:=Option.some.inj hk
   have:=h _ h1;omega
  ·rw[MS.pack_len h2]at hk;cases hk
 |eptrArr l n i off b sz hl h=>
  intro m' hids hn hph
  rcases hids l hl with h'|h'|⟨k1,k2,h1,h2,h3⟩|⟨h1,_⟩
  rotate_right
  ·rw[h]at h1;exact h1.elim
  ·exact .eptrArr l n i off b sz (by omega) (h'.trans h)
  ·exact .eptrOther l n i off _ (by omega) (by rw[h'];simp[MS.len])
  ·rw[h]at h1;obtain rfl:=Option.some.inj h1
   exact .eptrOther l _ i off _ (by omega) (by rw[h2];intro k hk;obtain rfl:=Option.some.inj hk;exact h3)
 |agg cs us hlen hx ih=>intro m' h1 h2 h3;exact .agg cs us hlen fun i x h=>ih i x h m' h1 h2 h3
 |tup cs us hlen hx ih=>intro m' h1 h2 h3;exact .tup cs us hlen fun i x h=>ih i x h m' h1 h2 h3
 |fn f xs ys us vs g1 g2 hx hy ihx ihy=>
  intro m' h1 h2 h3
  exact .fn f xs ys us vs g1 g2 (fun i x h=>ihx i x h m' h1 h2 h3) (fun i x h=>ihy i x h m' h1 h2 h3)
theorem Conc.mono {B:Nat}{m m':Map}{w w':World}(hf:Fr m w m' w'){x:AV}{y:Value}(h:Conc B (Av m) w m x y):
  Conc B (Av m') w' m' x y:=
 h.mono' hf.size (fun b hb hn=>hf.keep b hb fun hw=>hn (.inl hw))
  (fun b hb hw=>hw.elim (fun hw=>.inl ((hf.fresh b hw).resolve_right (by omega))) (fun ha=>.inr (hf.av▸ha))) m' hf.ids hf.n
  fun l b sz len ccs ty _ hl hl' hh=>hf.phys b ccs ty ⟨l,by simp[hl,MS.has]⟩ ⟨l,by simp[hl',MS.has]⟩ hh
inductive DVs (B:Nat)(w:World):List AV→List Value→List Nat→Prop
 |nil:DVs B w [] [] []
 |lit (v:Value) {xs:List AV} {vs:List Value} {F:List Nat} (h:DVs B w xs vs F):DVs B w (.lit v::xs) (v::vs) F
 |emp (a:Option Addr) {xs:List AV} {vs:List Value} {F:List Nat} (h:DVs B w xs vs F):DVs B w (.arr []::xs) (.slice a 0 0::vs) F
 |arr (es:List (List AV)) (b sz cap:Nat) (ccs:Array Value) (ty:TypeId) {xs:List AV} {vs:List Value} {F' F:List Nat} (hB:es.length≤bd B) (hne:es≠[]) (hsz:∀e,e∈es→e.length=sz)
   (hcap:es.length≤cap) (hh:w.heap[b]? =some (.cells ccs ty (0,0))) (hsize:cap*sz≤ccs.size) (hx:DVs B w es.flatten (ccs.toList.take (es.length*sz)) F') (h:DVs B w xs vs F):
   DVs B w (.arr es::xs) (.slice (some ⟨b,0,none⟩) es.length cap::vs) (b::F'++F)
theorem DVs.mem {B:Nat}{w:World}{xs:List AV}{vs:List Value}{F:List Nat}(h:DVs B w xs vs F):∀b,b∈F→∃ccs ty,w.heap[b]? =some (.cells ccs ty (0,0)):=by
 induction h with
 |nil=>intro b hb;cases hb
 |lit v h ih=>exact ih
 |emp a h ih=>exact ih
 |arr es b sz cap ccs ty hB hne hsz hcap hh hsize hx h ih1 ih2=>
  intro b' hb
  simp only[List.cons_append,List.mem_cons,List.mem_append]at hb
  rcases hb with rfl|hb|hb
  ·exact⟨_,_,hh⟩
  ·exact ih1 b' hb
  ·exact ih2 b' hb
theorem DVs.keep {B:Nat}{w w':World}{xs:List AV}{vs:List Value}{F:List Nat}(h:DVs B w xs vs F)(hk:∀b,b∈F→w'.heap[b]? =w.heap[b]?):DVs B w' xs vs F:=by
 induction h with
 |nil=>exact .nil
 |lit v h ih=>exact .lit v (ih hk)
 |emp a h ih=>exact .emp a (ih hk)
 |arr es b sz cap ccs ty hB hne hsz hcap hh hsize hx h ih1 ih2=>
  simp only[List.cons_append,List.mem_cons,List.mem_append]at hk
  exact .arr es b sz cap ccs ty hB hne hsz hcap (by rw[hk b (.inl rfl),hh]) hsize (ih1 fun b' hb=>hk b' (.inr (.inl hb))) (ih2 fun b' hb=>hk b' (.inr (.inr hb)))
def BldP (b:Nat)(ccs:Array Value):Prop:=(ccs[0]? =some (.pointer none)∨ccs[0]? =some (.pointer (some ⟨b,0,none⟩)))∧∀a,ccs[1]? =some (.slice a 0 0)→a=none
def BlkSim (B:Nat)(m:Map)(w:World)(s:MS):Option Blk→Prop
 |none|some .dead=>s=.dead
 |some (.tcells ot cs)=>∃(b:Nat) (ccs:Array Value) (ty:{t:TypeId// ∀T,ot=some T→t=T∧BldP b ccs}),s=.box b∧w.heap[b]? =some (.cells ccs ty (0,0))∧ccs.size=cs.length∧
   ∀(i:Nat) (x:AV),cs[i]? =some x→∃y:Value,ccs[i]? =some y∧Conc B (Av m) w m x y
 |some (.pack xs vs)=>∃F,s=.pack F∧F.Nodup∧DVs B w xs vs F
 |some (.telems ot sz es)=>(∀e,e∈es→e.length=sz)∧es.length≤bd B∧((s=.nil∧es=[])∨∃(b:Nat) (ccs:Array Value) (ty:{t:TypeId// ∀T,ot=some T→t=T}),s=.arr b sz es.length∧w.heap[b]? =some (.cells ccs ty (0,0))∧
   es.length*sz≤ccs.size∧∀(i:Nat) (e:List AV) (k:Nat) (x:AV),es[i]? =some e→e[k]? =some x→∃y:Value,ccs[i*sz+k]? =some y∧Conc B (Av m) w m x y)
def powVals :List Value:=(List.range 20).map fun i=>Value.int .u64 ((10^i:Nat):Int)
def TbW (B:Nat)(w:World):Prop:=∀g,tbOf B=some g→g<w.heap.size∧∃ccs ty fz,w.heap[g]? =some (.cells ccs ty fz)∧ccs=powVals.toArray
def TbOk (B:Nat)(m:Map)(w:World):Prop:=∀g,tbOf B=some g→¬Wr m g∧g<w.heap.size∧∃ccs ty fz,w.heap[g]? =some (.cells ccs ty fz)∧ccs=powVals.toArray
theorem TbOk.w {B:Nat}{m:Map}{w:World}(h:TbOk B m w):TbW B w:=fun g hg=>(h g hg).2
theorem TbW.ok {B:Nat}{m:Map}{w:World}(h:TbW B w)(hm:∀b,Wr m b→tbOf B≠some b):TbOk B m w:=fun g hg=>⟨fun hw=>hm g hw hg,h g hg⟩
abbrev anyE (ty:TypeId):{t:TypeId// ∀T,(none:Option TypeId)=some T→t=T}:=⟨ty,fun _ h=>nomatch h⟩
abbrev anyT {b:Nat}{ccs:Array Value}(ty:TypeId):{t:TypeId// ∀T,(none:Option TypeId)=some T→t=T∧BldP b ccs}:=⟨ty,fun _ h=>nomatch h⟩
structure Sim (B:Nat)(m:Map)(σ:Store)(w:World):Prop where
 n:m.n=σ.length
 blk:∀l,BlkSim B m w (m.f l) σ[l]?
 inj:∀l l' b,(m.f l).has b→(m.f l').has b→l=l'
 sep:∀b,Wr m b→¬m.av b
 avlt:∀b,m.av b→b<w.heap.size
 tb:TbOk B m w
theorem TbOk.fr {B:Nat}{m m':Map}{σ:Store}{w w':World}(hs:Sim B m σ w)(hf:Fr m w m' w'):TbOk B m' w':=by
 intro g hg
 obtain⟨h1,h2,ccs,ty,fz,h3,h4⟩:=hs.tb g hg
 refine⟨fun hw=>(hf.fresh g hw).elim h1 (by omega),Nat.lt_of_lt_of_le h2 hf.size,ccs,ty,fz,?_,h4⟩
 rw[hf.keep g h2 h1];exact h3
theorem TbOk.sub {B:Nat}{m m':Map}{w:World}(h:TbOk B m w)(hm:∀b,Wr m' b→Wr m b):TbOk B m' w:=fun g hg=>⟨fun hw=>(h g hg).1 (hm g hw),(h g hg).2⟩
def AvOk (B:Nat)(av:Nat→Prop)(w:World):Prop:=(∀b,av b→b<w.heap.size)∧TbW B w
theorem Sim.mapOk {B:Nat}{m:Map}{σ:Store}{w:World}(h:Sim B m σ w):MapOk m w:=by
 intro b ⟨l,hl⟩
 have hb:=h.blk l
 have key:∃ccs ty,w.heap[b]? =some (.cells ccs ty (0,0)):=by
  cases hσ:σ[l]? with
  |none=>simp[hσ,BlkSim]at hb;simp[hb,MS.has]at hl
  |some k=>
   cases k with
   |dead=>simp[hσ,BlkSim]at hb;simp[hb,MS.has]at hl
   |tcells ot cs=>
    rw[hσ]at hb
    obtain⟨b',ccs,ty,h1,h2,_⟩:=hb
    simp[h1,MS.has]at hl;subst hl;exact⟨_,_,h2⟩
   |telems oe sz es=>
    rw[hσ]at hb
    obtain⟨_,_,(⟨h1,_⟩|⟨b',ccs,ty,h1,h2,_⟩)⟩:=hb
    ·simp[h1,MS.has]at hl
    ·simp[h1,MS.has]at hl;subst hl;exact⟨_,_,h2⟩
   |pack xs vs=>
    rw[hσ]at hb
    obtain⟨F,h1,_,h2⟩:=hb
    rw[h1]at hl
    exact h2.mem b hl
 obtain⟨ccs,ty,hk⟩:=key
 exact⟨(Array.getElem?_eq_some_iff.1 hk).1,ccs,ty,hk⟩
end Go.Vl
