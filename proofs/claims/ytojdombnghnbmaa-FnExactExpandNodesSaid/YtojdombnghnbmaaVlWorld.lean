/- The value-level layer, part 3: steps of the world, and what they leave of the relation. -/
import Derived.Test.YtojdombnghnbmaaVlOps
set_option linter.unusedSimpArgs false
set_option linter.unusedVariables false
namespace Go.Vl
open Go
theorem zero_frozen {w:World}{b o:Nat}{ccs:Array Value}{ty:TypeId}(h:w.heap[b]? =some (.cells ccs ty (0,0))):
  w.frozen? ⟨b,o,none⟩=false:=by simp[World.frozen?,h]
theorem cell_at {w:World}{b o:Nat}{ccs:Array Value}{ty:TypeId}(h:w.heap[b]? =some (.cells ccs ty (0,0))):
  w.cell? ⟨b,o,none⟩=ccs[o]? :=by simp[World.cell?,h]
theorem add_at (b o n:Nat):(Addr.add ⟨b,o,none⟩ n)=⟨b,o+n,none⟩:=by
 unfold Addr.add;split
 ·next h=>subst h;rfl
 ·rfl
def putBlk (w:World)(b:Nat)(ccs:Array Value)(ty:TypeId):World:={w with heap:=w.heap.setIfInBounds b (.cells ccs ty (0,0))}
theorem putBlk_same {w:World}{b:Nat}{ccs ccs':Array Value}{ty:TypeId}(h:w.heap[b]? =some (.cells ccs ty (0,0))):
  (putBlk w b ccs' ty).heap[b]? =some (.cells ccs' ty (0,0)):=by
 have hb:=(Array.getElem?_eq_some_iff.1 h).1
 simp[putBlk,hb]
theorem putBlk_other {w:World}{b b':Nat}{ccs':Array Value}{ty:TypeId}(h:b'≠b):
  (putBlk w b ccs' ty).heap[b']? =w.heap[b']? :=by
 simp[putBlk,Ne.symm h]
theorem putBlk_size (w:World)(b:Nat)(ccs:Array Value)(ty:TypeId):(putBlk w b ccs ty).heap.size=w.heap.size:=by simp[putBlk]
theorem putBlk_id {w:World}{b:Nat}{ccs:Array Value}{ty:TypeId}(h:w.heap[b]? =some (.cells ccs ty (0,0))):putBlk w b ccs ty=w:=by
 unfold putBlk
 obtain⟨hb,he⟩:=Array.getElem?_eq_some_iff.1 h
 have:w.heap.setIfInBounds b (.cells ccs ty (0,0))=w.heap:=by
  apply Array.ext_getElem?
  intro i
  rw[Array.getElem?_setIfInBounds]
  split
  ·next e=>subst e;simp[hb,←he]
  ·rfl
 rw[this]
theorem putBlk_put {w:World}{b:Nat}{c1 c2:Array Value}{ty:TypeId}:putBlk (putBlk w b c1 ty) b c2 ty=putBlk w b c2 ty:=by
 unfold putBlk;simp
theorem setCell_put {w:World}{b o:Nat}{ccs:Array Value}{ty:TypeId}(h:w.heap[b]? =some (.cells ccs ty (0,0)))(v:Value):
  w.setCell ⟨b,o,none⟩ v=putBlk w b (ccs.setIfInBounds o v) ty:=by
 unfold World.setCell putBlk
 congr 1
 apply Array.ext_getElem?
 intro i
 rw[Array.getElem?_setIfInBounds,Array.getElem?_modify]
 obtain⟨hb,he⟩:=Array.getElem?_eq_some_iff.1 h
 by_cases e:b=i
 ·subst e;simp[hb,he]
 ·simp[e]
def wrArr (ccs:Array Value)(o:Nat):List Value→Array Value
 | []=>ccs
 |v::r=>wrArr (ccs.setIfInBounds o v) (o+1) r
theorem wrArr_size (o:Nat)(vs:List Value):∀ccs:Array Value,(wrArr ccs o vs).size=ccs.size:=by
 induction vs generalizing o with
 |nil=>intro;rfl
 |cons v r ih=>intro ccs;simp[wrArr,ih]
theorem wrArr_get (vs:List Value):∀(o:Nat) (ccs:Array Value) (j:Nat),o+vs.length≤ccs.size→
  (wrArr ccs o vs)[j]? =if o≤j∧j<o+vs.length then vs[j-o]? else ccs[j]? :=by
 induction vs with
 |nil=>intro o ccs j _;simp only[wrArr,List.length_nil];rw[if_neg (by omega)]
 |cons v r ih=>
  intro o ccs j h
  simp only[List.length_cons]at h ⊢
  rw[wrArr,ih (o+1) _ j (by simp;omega)]
  by_cases h1:o+1≤j∧j<o+1+r.length
  ·rw[if_pos h1,if_pos (by omega)]
   obtain⟨k,hk⟩:∃k,j-o=k+1:=⟨j-o-1,by omega⟩
   rw[hk,List.getElem?_cons_succ];congr 1;omega
  ·rw[if_neg h1]
   by_cases h2:j=o
   ·subst h2;rw[if_pos (by omega),Array.getElem?_setIfInBounds_self_of_lt (by omega)];simp
   ·rw[if_neg (by omega),Array.getElem?_setIfInBounds,if_neg (Ne.symm h2)]
theorem run_storeCells {P:Program}(b:Nat)(ty:TypeId)(o:Nat):∀(vs:List Value) (w:World) (ccs:Array Value) (i:Nat),
  w.heap[b]? =some (.cells ccs ty (0,0))→(∀v,v∈vs→v.oneCell'=true)→o+i+vs.length≤ccs.size→
  (storeCells ⟨b,o,none⟩ vs i).run P w=.ok () (putBlk w b (wrArr ccs (o+i) vs) ty):=by
 intro vs
 induction vs with
 |nil=>intro w ccs i h _ _;simp[storeCells,wrArr,putBlk_id h]
 |cons v r ih=>
  intro w ccs i h h1 h2
  simp only[List.length_cons]at h2
  have hc:w.cell? ⟨b,o+i,none⟩=some (ccs[o+i]'(by omega)):=by rw[cell_at h];simp
  simp only[storeCells,Sem.run_bind,add_at]
  rw[run_store P w _ v .plain (h1 v (List.mem_cons_self ..)),hc]
  simp only[zero_frozen h,Bool.false_eq_true,if_false,Result.andThen,setCell_put h]
  rw[ih _ (ccs.setIfInBounds (o+i) v) (i+1) (putBlk_same h) (fun x hx=>h1 x (List.mem_cons_of_mem _ hx)) (by simp;omega),putBlk_put]
  rfl
theorem Sim.upd {B:Nat}{m:Map}{σ:Store}{w:World}(h:Sim B m σ w){m':Map}{w':World}(hf:Fr m w m' w')(l0:Nat){σ':Store}
  (hn:m'.n=σ'.length) (hold:∀l,l≠l0→σ'[l]? =σ[l]?∧m'.f l=m.f l)
  (hph:∀l b,l≠l0→(m.f l).has b→w'.heap[b]? =w.heap[b]?)
  (hnew:BlkSim B m' w' (m'.f l0) σ'[l0]?)
  (hinj:∀l b,l≠l0→(m.f l).has b→¬(m'.f l0).has b):Sim B m' σ' w' where
 n:=hn
 blk l:=by
  by_cases e:l=l0
  ·subst e;exact hnew
  ·obtain⟨h1,h2⟩:=hold l e
   rw[h1,h2]
   have hb:=h.blk l
   cases hσ:σ[l]? with
   |none=>rw[hσ]at hb;exact hb
   |some k=>
    rw[hσ]at hb
    cases k with
    |dead=>exact hb
    |tcells ot cs=>
     obtain⟨b,ccs,ty,g1,g2,g3,g4⟩:=hb
     refine⟨b,ccs,ty,g1,?_,g3,fun i x hx=> ?_⟩
     ·rw[hph l b e (by simp[g1,MS.has]),g2]
     ·obtain⟨y,hy,hc⟩:=g4 i x hx
      exact⟨y,hy,hc.mono hf⟩
    |telems oe sz es=>
     obtain⟨g0,g0',hb⟩:=hb
     refine⟨g0,g0',?_⟩
     rcases hb with hb|⟨b,ccs,ty,g1,g2,g3,g4⟩
     ·exact .inl hb
     ·refine .inr ⟨b,ccs,ty,g1,?_,g3,fun i e' k x hi hk=> ?_⟩
      ·rw[hph l b e (by simp[g1,MS.has]),g2]
      ·obtain⟨y,hy,hc⟩:=g4 i e' k x hi hk
       exact⟨y,hy,hc.mono hf⟩
    |pack xs vs=>
     obtain⟨F,g1,g2,g3⟩:=hb
     exact⟨F,g1,g2,g3.keep fun b hb=>hph l b e (by rw[g1];exact hb)⟩
 inj l l' b h1 h2:=by
  by_cases e:l=l0<;>by_cases e':l'=l0
  ·rw[e,e']
  ·subst e
   rw[(hold l' e').2]at h2
   exact absurd h1 (hinj l' b e' h2)
  ·subst e'
   rw[(hold l e).2]at h1
   exact absurd h2 (hinj l b e h1)
  ·rw[(hold l e).2]at h1;rw[(hold l' e').2]at h2
   exact h.inj l l' b h1 h2
 sep b hb ha:=by
  rw[hf.av]at ha
  rcases hf.fresh b hb with h1|h1
  ·exact h.sep b h1 ha
  ·have:=h.avlt b ha;omega
 avlt b ha:=by
  rw[hf.av]at ha
  exact Nat.lt_of_lt_of_le (h.avlt b ha) hf.size
 tb:=TbOk.fr h hf
theorem Sim.lt_of_blk {B:Nat}{m:Map}{σ:Store}{w:World}(h:Sim B m σ w){l b:Nat}(hb:(m.f l).has b):b<w.heap.size:=
 (h.mapOk b ⟨l,hb⟩).1
theorem Sim.dead_of_ge {B:Nat}{m:Map}{σ:Store}{w:World}(h:Sim B m σ w){l:Nat}(hl:σ.length≤l):m.f l=.dead:=by
 have:=h.blk l
 rw[List.getElem?_eq_none hl]at this
 exact this
def Map.push (m:Map)(s:MS):Map:=⟨fun l=>if l=m.n then s else m.f l,m.n+1,m.av⟩
theorem Map.push_old (m:Map)(s:MS){l:Nat}(h:l≠m.n):(m.push s).f l=m.f l:=by simp[Map.push,h]
theorem Map.push_new (m:Map)(s:MS):(m.push s).f m.n=s:=by simp[Map.push]
theorem Fr.push {B:Nat}{m:Map}{σ:Store}{w:World}(_h:Sim B m σ w)(s:MS){w':World}
  (hsize:w.heap.size≤w'.heap.size) (hk:∀b,b<w.heap.size→w'.heap[b]? =w.heap[b]?) (hs:∀b,s.has b→w.heap.size≤b)
  (h1:w'.tape=w.tape) (h2:w'.os=w.os) (h3:w'.output=w.output):Fr m w (m.push s) w' where
 size:=hsize
 keep b hb _:=hk b hb
 phys b ccs ty _ _ hh:=⟨ccs,by rw[hk b (Array.getElem?_eq_some_iff.1 hh).1,hh],rfl⟩
 fresh b:=by
  rintro⟨l,hl⟩
  by_cases e:l=m.n
  ·subst e;rw[Map.push_new]at hl;exact .inr (hs b hl)
  ·rw[Map.push_old m s e]at hl;exact .inl ⟨l,hl⟩
 ids l hl:=by rw[Map.push_old m s (by omega)];exact .inl rfl
 n:=by simp[Map.push]
 av:=rfl
 tape:=h1
 os:=h2
 output:=h3
theorem getElem?_push_old {σ:Store}{x:Blk}{l:Nat}(h:l≠σ.length):(σ++[x])[l]? =σ[l]? :=by
 by_cases hl:l<σ.length
 ·rw[List.getElem?_append_left hl]
 ·rw[List.getElem?_eq_none (by simp;omega),List.getElem?_eq_none (by omega)]
theorem getElem?_push_new (σ:Store)(x:Blk):(σ++[x])[σ.length]? =some x:=by simp
theorem Sim.push {B:Nat}{m:Map}{σ:Store}{w:World}(h:Sim B m σ w)(s:MS)(x:Blk){w':World}
  (hf:Fr m w (m.push s) w') (hk:∀b,b<w.heap.size→w'.heap[b]? =w.heap[b]?) (hs:∀b,s.has b→w.heap.size≤b)
  (hx:BlkSim B (m.push s) w' s (some x)):Sim B (m.push s) (σ++[x]) w':=by
 refine h.upd hf σ.length (by simp[Map.push,h.n]) (fun l hl=>⟨getElem?_push_old hl,Map.push_old m s (by rw[h.n];exact hl)⟩)
  (fun l b _ hb=>hk b (h.lt_of_blk hb)) ?_ ?_
 ·rw[getElem?_push_new,←h.n,Map.push_new];exact hx
 ·intro l b _ hb hb'
  rw[←h.n,Map.push_new]at hb'
  have:=hs b hb';have:=h.lt_of_blk hb;omega
theorem alloc_old (w:World)(o:Obj){b:Nat}(h:b<w.heap.size):(w.alloc o).heap[b]? =w.heap[b]? :=by
 show(w.heap.push o)[b]? =_
 rw[Array.getElem?_push,if_neg (by omega)]
theorem alloc_new (w:World)(o:Obj):(w.alloc o).heap[w.heap.size]? =some o:=by
 show(w.heap.push o)[w.heap.size]? =_
 simp
theorem Sim.boxT {B:Nat}{m:Map}{σ:Store}{w:World}(h:Sim B m σ w)(cs:List AV)(us:Array Value)(ty:TypeId)(ot:Option TypeId)(hot:∀T,ot=some T→ty=T∧BldP w.heap.size us)(hlen:us.size=cs.length)
  (hx:∀i x,cs[i]? =some x→Conc B (Av m) w m x (us.getD i undef)):
  Fr m w (m.push (.box w.heap.size)) (w.alloc (.cells us ty))∧
  Sim B (m.push (.box w.heap.size)) (σ++[.tcells ot cs]) (w.alloc (.cells us ty)):=by
 have hs:∀b,(MS.box w.heap.size).has b→w.heap.size≤b:=by intro b hb;simp[MS.has]at hb;omega
 have hf:Fr m w (m.push (.box w.heap.size)) (w.alloc (.cells us ty)):=
  Fr.push h _ (by simp) (fun b hb=>alloc_old w _ hb) hs rfl rfl rfl
 refine⟨hf,h.push _ _ hf (fun b hb=>alloc_old w _ hb) hs ⟨w.heap.size,us,⟨ty,hot⟩,rfl,alloc_new w _,hlen,fun i x hi=> ?_⟩⟩
 have hi':i<us.size:=by rw[hlen];exact(List.getElem?_eq_some_iff.1 hi).1
 refine⟨us[i],by simp[hi'],?_⟩
 have:=(hx i x hi).mono hf
 rwa[Array.getD_eq_getD_getElem?,Array.getElem?_eq_getElem hi',Option.getD_some]at this
theorem Sim.box {B:Nat}{m:Map}{σ:Store}{w:World}(h:Sim B m σ w)(cs:List AV)(us:Array Value)(ty:TypeId)(hlen:us.size=cs.length)
  (hx:∀i x,cs[i]? =some x→Conc B (Av m) w m x (us.getD i undef)):
  Fr m w (m.push (.box w.heap.size)) (w.alloc (.cells us ty))∧
  Sim B (m.push (.box w.heap.size)) (σ++[.cells cs]) (w.alloc (.cells us ty)):=h.boxT cs us ty none (fun _ h=>nomatch h) hlen hx
theorem Sim.elems {B:Nat}{m:Map}{σ:Store}{w:World}(h:Sim B m σ w)(sz:Nat)(es:List (List AV))(us:Array Value)(ty:TypeId)
  {w':World} (hw:w'=w∨w'=w.drew)
  (hsz:∀e,e∈es→e.length=sz) (hB:es.length≤bd B) (hlen:es.length*sz≤us.size)
  (hx:∀i e k x,es[i]? =some e→e[k]? =some x→∃y,us[i*sz+k]? =some y∧Conc B (Av m) w m x y):
  Fr m w (m.push (.arr w.heap.size sz es.length)) (w'.alloc (.cells us ty))∧
  Sim B (m.push (.arr w.heap.size sz es.length)) (σ++[.elems sz es]) (w'.alloc (.cells us ty)):=by
 have hs:∀b,(MS.arr w.heap.size sz es.length).has b→w.heap.size≤b:=by intro b hb;simp[MS.has]at hb;omega
 have hsame:w'.heap=w.heap∧w'.tape=w.tape∧w'.os=w.os∧w'.output=w.output:=by
  rcases hw with rfl|rfl<;>exact⟨rfl,rfl,rfl,rfl⟩
 obtain⟨e1,e2,e3,e4⟩:=hsame
 have hk:∀b,b<w.heap.size→(w'.alloc (.cells us ty)).heap[b]? =w.heap[b]? :=fun b hb=>by
  rw[alloc_old w' _ (by rw[e1];exact hb),e1]
 have hf:Fr m w (m.push (.arr w.heap.size sz es.length)) (w'.alloc (.cells us ty)):=
  Fr.push h _ (by simp[e1]) hk hs e2 e3 e4
 have hnew:(w'.alloc (.cells us ty)).heap[w.heap.size]? =some (.cells us ty (0,0)):=by
  have:=alloc_new w' (.cells us ty (0,0));rwa[e1]at this
 refine⟨hf,h.push _ _ hf hk hs ⟨hsz,hB,.inr ⟨w.heap.size,us,anyE ty,rfl,hnew,hlen,fun i e k x hi hk=> ?_⟩⟩⟩
 obtain⟨y,hy,hc⟩:=hx i e k x hi hk
 exact⟨y,hy,hc.mono hf⟩
theorem Fr.put {m:Map}{w:World}{l b:Nat}{ccs ccs':Array Value}{ty:TypeId}(hl:(m.f l).has b)
  (hh:w.heap[b]? =some (.cells ccs ty (0,0))) (hs:ccs'.size=ccs.size) (m':Map)
  (hm:∀b',Wr m' b'→Wr m b') (hids:∀l,l<m.n→(m.f l).le (m'.f l)) (hn:m.n≤m'.n) (hav:m'.av=m.av):Fr m w m' (putBlk w b ccs' ty)where
 size:=by rw[putBlk_size];exact Nat.le_refl _
 keep b' _ hn:=putBlk_other (fun e=>hn (e▸ ⟨l,hl⟩))
 phys b' c t _ _ hh':=by
  by_cases e:b'=b
  ·subst e
   rw[hh]at hh';obtain⟨rfl,rfl,_⟩:=Obj.cells.inj (Option.some.inj hh')
   exact⟨ccs',putBlk_same hh,hs⟩
  ·exact⟨c,by rw[putBlk_other e,hh'],rfl⟩
 fresh b' hb:=.inl (hm b' hb)
 ids:=hids
 n:=hn
 av:=hav
 tape:=rfl
 os:=rfl
 output:=rfl
end Go.Vl
