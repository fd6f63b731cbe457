import Derived.Test.YtanfmnlkemmkpaaGreatVlSound3
set_option linter.all false
namespace Go.Vl
open Go
section
variable {P : Program} {B : Nat} {w : World} {m : Map} {σ : ZA}
theorem ZEF :∀(es:List (List AV)) (σ:ZA) (m:Map) (K:List (List AV)->ZA->Prop),Sim B m σ w->ZLM σ es K->
  ∀us:Nat->Nat->Value,(∀(i:Nat) (e:List AV) (k:Nat) (x:AV),es[i]? =some e->e[k]? =some x->Conc B (Av m) w m x (us i k))->
  ∃es' σ' m',K es' σ'/\es'.length=es.length/\(∀(i:Nat) (e':List AV),es'[i]? =some e'->∃e,es[i]? =some e/\e'.length=e.length)/\Sim B m' σ' w/\Fr m w m' w/\
   (∀(i:Nat) (e:List AV) (k:Nat) (x:AV),es'[i]? =some e->e[k]? =some x->Conc B (Av m') w m' x (us i k))
 | [],σ,m,K,h,hk,us,hc=>⟨[],σ,m,hk,rfl,fun i e hi=>by simp at hi,h,Fr.refl m w,fun i e k x hi=>by simp at hi⟩
 |e::r,σ,m,K,h,hk,us,hc=>by
  obtain⟨e',σ1,m1,hk1,hl1,hs1,hf1,hc1⟩:=ZBA e σ m _ h hk (us 0) (fun k x hk=>hc 0 e k x (by simp) hk)
  obtain⟨r',σ2,m2,hK,hl2,hl3,hs2,hf2,hc2⟩:=ZEF r σ1 m1 _ hs1 hk1 (fun i=>us (i+1)) (fun i e k x hi hk=>(hc (i+1) e k x (by simpa using hi) hk).mono hf1)
  refine⟨e'::r',σ2,m2,hK,by simp[hl2],fun i e'' hi=> ?_,hs2,hf1.trans hf2 h.mapOk,fun i e'' k x hi hk=> ?_⟩
  ·cases i with
   |zero=>simp at hi;subst hi;exact⟨e,by simp,hl1⟩
   |succ i=>simpa using hl3 i e'' (by simpa using hi)
  ·cases i with
   |zero=>simp at hi;subst hi;exact(hc1 k x hk).mono hf2
   |succ i=>exact hc2 i e'' k x (by simpa using hi) hk
theorem ZEK (h:Sim B m σ w)(sz:Nat):∀(parts:List (Nat×AV)) (vals:List (Nat×Value)) (j:Nat) (us:Array Value) (K:List (List AV)->Prop),
  parts.length=vals.length->(∀(i:Nat) p q,parts[i]? =some p->vals[i]? =some q->p.1=q.1/\Conc B (Av m) w m p.2 q.2)->(j+parts.length)*sz<=us.size->
  ZBf σ sz j parts K->∃es us',K es/\Instr.fill (fun i=>some (i*sz,sz)) us vals=some us'/\us'.size=us.size/\es.length=parts.length/\(∀e,e∈es->e.length=sz)/\
   (∀(i:Nat) (e:List AV) (k:Nat) (x:AV),es[i]? =some e->e[k]? =some x->∃y:Value,us'[(j+i)*sz+k]? =some y/\Conc B (Av m) w m x y)/\
   (∀p,p<j*sz->us'[p]? =us[p]?)
 | [],[],j,us,K,_,_,_,hk=>⟨[],us,hk,rfl,rfl,rfl,fun e he=>by simp at he,fun i e k x hi=>by simp at hi,fun p _=>rfl⟩
 | [],_::_,_,_,_,hl,_,_,_=>by simp at hl
 |_::_,[],_,_,_,hl,_,_,_=>by simp at hl
 |(i,x)::parts,(i',v)::vals,j,us,K,hl,hp,hsz,hk=>by
  obtain⟨h1,h2⟩:=hp 0 (i,x) (i',v) (by simp) (by simp)
  simp only at h1 h2;subst h1
  obtain⟨rfl,hk⟩:=hk
  obtain⟨e,⟨hs,hk⟩,hlen,hc⟩:=ZAe h hk h2
  have hre:=ZI8 hlen hc
  have hsz':(i+1+parts.length)*sz<=(wrArr us (i*sz) v.cells.toList).size:=by
   rw[Zk];simp only[List.length_cons]at hsz;rw[show i+1+parts.length=i+(parts.length+1) by omega];exact hsz
  have h1sz:i*sz+sz<=us.size:=by
   have:(i+1)*sz<=(i+(parts.length+1))*sz:=Nat.mul_le_mul_right sz (by omega)
   rw[Nat.add_mul,Nat.one_mul]at this
   simp only[List.length_cons]at hsz;omega
  obtain⟨es,us',hK,hf,g1,g2,g3,g4,g5⟩:=ZEK h sz parts vals (i+1) _ _ (by simpa using hl) (fun k p q hi hq=>hp (k+1) p q (by simpa using hi) (by simpa using hq)) hsz' hk
  have hvl:v.cells.toList.length=sz:=by simp[hlen,hs]
  refine⟨e.map (Vl.nzs σ)::es,us',hK,?_,by rw[g1,Zk],by simp[g2],fun e' he'=> ?_,fun k e' k' x' hi hk'=> ?_,fun p hp'=> ?_⟩
  ·simp only[Instr.fill]
   rw[if_neg (by simp[hlen,hs];omega),ZFb]
   exact hf
  ·rcases List.mem_cons.1 he' with rfl|he'
   ·simpa using hs
   ·exact g3 e' he'
  ·cases k with
   |zero=>
    simp at hi;subst hi
    rw[List.getElem?_map,Option.map_eq_some_iff]at hk'
    obtain⟨x0,hk',rfl⟩:=hk'
    have hk2:k'<sz:=by rw[←hs];exact(List.getElem?_eq_some_iff.1 hk').1
    rw[Nat.add_zero,g5 _ (by rw[Nat.add_mul,Nat.one_mul];omega),ZAl _ _ _ _ (by rw[hvl];exact h1sz),hvl,if_pos (by omega)]
    obtain⟨y,hy,hc'⟩:=hre.2 k' x0 hk'
    exact⟨y,by rw[Nat.add_sub_cancel_left];simpa using hy,hc'.nzs σ⟩
   |succ k=>
    have:=g4 k e' k' x' (by simpa using hi) hk'
    rw[show i+(k+1)=i+1+k by omega];exact this
  ·rw[g5 p (by rw[Nat.add_mul,Nat.one_mul];omega),ZAl _ _ _ _ (by rw[hvl];exact h1sz),if_neg (by omega)]
theorem ZGn (es:List (List AV))(σ:ZA)(m:Map)(K:List (List AV)->ZA->Prop)(h:Sim B m σ w)(hk:bfrzs σ es K)
  (us:Nat->Nat->Value) (hc:∀(i:Nat) (e:List AV) (k:Nat) (x:AV),es[i]? =some e->e[k]? =some x->Conc B (Av m) w m x (us i k)):
  ∃es' σ' m',K es' σ'/\es'.length=es.length/\(∀(i:Nat) (e':List AV),es'[i]? =some e'->∃e,es[i]? =some e/\e'.length=e.length)/\Sim B m' σ' w/\Fr m w m' w/\
   (∀(i:Nat) (e:List AV) (k:Nat) (x:AV),es'[i]? =some e->e[k]? =some x->Conc B (Av m') w m' x (us i k)):=by
 unfold bfrzs at hk
 split at hk
 ·exact⟨es,σ,m,hk,rfl,fun i e hi=>⟨e,hi,rfl⟩,h,Fr.refl m w,hc⟩
 ·exact ZEF es σ m K h hk us hc
theorem ZCt (h:Sim B m σ w){t:TypeId}{len:Nat}{parts:List (Nat×AV)}{K:AV->ZA->Prop}(hk:Zv P B t σ len parts K){vals:Array (Nat×Value)}
  (hl:parts.length=vals.size) (hp:∀(i:Nat) p q,parts[i]? =some p->vals[i]? =some q->p.1=q.1/\Conc B (Av m) w m p.2 q.2):
  Good B m w K ((Instr.buildSlice t len vals).run P w):=by
 unfold Zv at hk
 split at hk
 ·next sz by_ z size z' hti=>
  obtain⟨h1,h2,h3,h4,h5,hk⟩:=hk
  obtain⟨e,ie,g1,g2,g3,g4,g5⟩:=ZBR hti
  subst g5
  have hz0:ZAU ie≠[]:=by intro hz;rw[hz]at h4;exact h5 h4.symm
  obtain⟨zv,hz1,hz2⟩:=ZBx (P:=P) (w:=w) g2 hz0
  have hsz:(sizeOf e).run P w=.ok sz w:=by simp[sizeOf,typeInfo,g2,g3]
  generalize hzs:(Array.range (len*sz)).map (fun x=>if len*sz=0 then(#[]:Array Value)[x% (#[]:Array Value).size]! else zv.cells[x%zv.cells.size]!)=us0
  have hus0:us0.size=len*sz:=by rw[←hzs];simp
  obtain⟨es,us,hK,hf,k1,k2,k3,k4,_⟩:=ZEK h sz parts vals.toList 0 us0 _ (by simpa using hl) (fun i p q hi hq=>hp i p q hi (by simpa using hq)) (by rw[hus0,h1];simp) hk
  obtain⟨es',σ',m',hK',l1,l2,hs,hfr,hc⟩:=ZGn es σ m _ h hK (fun i k=>us.getD (i*sz+k) undef) (fun i e k x hi hk=>by
   obtain⟨y,hy,hxy⟩:=k4 i e k x hi hk
   rw[Nat.zero_add]at hy
   have:us.getD (i*sz+k) undef=y:=by simp[Array.getD_eq_getD_getElem?,hy]
   rw[this];exact hxy)
  have hes:∀e,e∈es'->e.length=sz:=by
   intro e' he'
   obtain⟨i,hi⟩:=List.getElem?_of_mem he'
   obtain⟨e0,he0,hl0⟩:=l2 i e' hi
   rw[hl0];exact k3 e0 (List.mem_of_getElem? he0)
  have hlen':es'.length=len:=by rw[l1,k2,h1]
  obtain⟨hf2,hs2⟩:=hs.elems sz es' us e (w':=w) (.inl rfl) hes (by rw[hlen'];exact h3) (by rw[hlen',k1,hus0];exact Nat.le_refl _)
   (fun i e k x hi hk=>by
    have hcc:=hc i e k x hi hk
    have hi':i<es'.length:=(List.getElem?_eq_some_iff.1 hi).1
    have hk':k<sz:=by rw[←hes e (List.mem_of_getElem? hi)];exact(List.getElem?_eq_some_iff.1 hk).1
    have hb:i*sz+k<us.size:=by
     rw[k1,hus0]
     have:(i+1)*sz<=len*sz:=Nat.mul_le_mul_right sz (by omega)
     rw[Nat.add_mul,Nat.one_mul]at this;omega
    refine⟨us[i*sz+k],by simp[hb],?_⟩
    have:us.getD (i*sz+k) undef=us[i*sz+k]:=by simp[Array.getD,hb]
    rw[this]at hcc;exact hcc)
  refine⟨.slice (some ⟨w.heap.size,0,none⟩) len len,_,_,_,_,?_,hK',hs2,?_,hfr.trans hf2 h.mapOk⟩
  ·have hf':Instr.fill (fun i=>some (i*sz,sz)) ((Array.range (len*sz)).map (fun x=>if len*sz=0 then(#[]:Array Value)[x% (#[]:Array Value).size]! else zv.cells[x%zv.cells.size]!)) vals.toList=some us:=by rw[hzs];exact hf
   simp only[Instr.buildSlice,Sem.run_bind,ZH g1,Result.andThen_ok,hsz]
   rw[if_neg (by omega)]
   by_cases h0:len*sz=0
   ·have e0:∀f:Nat->Value,(Array.range 0).map f=#[]:=fun f=>by apply Array.eq_empty_of_size_eq_zero;simp
    simp only[h0,if_true,e0]at hf'
    simp[h0,e0,hf',newRow]
   ·simp only[h0,if_false]at hf'
    simp[h0,hf',newRow,hz1]
  ·have hmn:m'.n=σ'.length:=hs.n
   rw[←hmn]
   have:=Conc.ownArr (B:=B) (W:=Av (m'.push (.arr w.heap.size sz es'.length))) (w:=w.alloc (.cells us e)) (m:=m'.push (.arr w.heap.size sz es'.length)) m'.n w.heap.size sz es'.length es'.length us e
    (by simp[Map.push]) (Map.push_new _ _) (ZAr w _) (by rw[hlen',k1,hus0];exact Nat.le_refl _) (Nat.le_refl _) id
   rw[hlen']at this
   rw[hlen'];exact this
 ·exact hk.elim
theorem ZC1 (h:Sim B m σ w){t:TypeId}{l c:AV}{K:AV->ZA->Prop}(hk:ZAH P B t σ l c K){u v:Value}
  (hx:Conc B (Av m) w m l u) (hy:Conc B (Av m) w m c v):Good B m w K ((Instr.makeSlice t u v).run P w):=by
 unfold ZAH at hk
 split at hk
 ·next sz bytes z size z' k n k' n' hti=>
  obtain⟨rfl,h0,hmax,hb,hB,hz,hsz0,hK⟩:=hk
  obtain rfl:=Conc.lit_inv hx
  obtain rfl:=Conc.lit_inv hy
  obtain⟨e,ie,g1,g2,g3,g4,g5⟩:=ZBR hti
  subst g5
  obtain⟨a,rfl⟩:∃a:Nat,n=a:=⟨n.toNat,by omega⟩
  simp only[Int.toNat_natCast]at hB hK
  have hz0:ZAU ie≠[]:=by intro hz';rw[hz']at hz;exact hsz0 hz.symm
  obtain⟨zv,hz1,hz2⟩:=ZBx (P:=P) (w:=w) g2 hz0
  have hsz:(sizeOf e).run P w=.ok sz w:=by simp[sizeOf,typeInfo,g2,g3]
  have hwrap:IntKind.i64.wrap (a:Int)=(a:Int):=by
   simp only[IntKind.wrap,IntKind.bits,IntKind.signed];simp;omega
  have hzs:zv.cells.size=sz:=by rw[←hz,←hz2];simp
  generalize hus:(Array.range (a*sz)).map (fun x=>if a*sz=0 then(#[]:Array Value)[x% (#[]:Array Value).size]! else zv.cells[x%zv.cells.size]!)=us
  have hus0:us.size=a*sz:=by rw[←hus];simp
  have hes:∀e,e∈List.replicate a (((ZAU ie).map AV.lit).map (Vl.nzs σ))->e.length=sz:=by
   intro e' he';rw[List.eq_of_mem_replicate he'];simpa using hz
  obtain⟨hf2,hs2⟩:=h.elems sz (List.replicate a (((ZAU ie).map AV.lit).map (Vl.nzs σ))) us e (w':=w) (.inl rfl) hes (by simpa using hB) (by simp[hus0])
   (fun i e' k x hi hk=>by
    have hi':i<a:=by have:=(List.getElem?_eq_some_iff.1 hi).1;simpa using this
    have he':e'=((ZAU ie).map AV.lit).map (Vl.nzs σ):=List.eq_of_mem_replicate (List.mem_of_getElem? hi)
    subst he'
    have hk':k<sz:=by have:=(List.getElem?_eq_some_iff.1 hk).1;rw[←hz];simpa using this
    have hb:i*sz+k<a*sz:=by
     have:(i+1)*sz<=a*sz:=Nat.mul_le_mul_right sz (by omega)
     rw[Nat.add_mul,Nat.one_mul]at this;omega
    have hne:¬a*sz=0:=by omega
    refine⟨zv.cells[k]'(by omega),?_,?_⟩
    ·rw[←hus]
     have hmod:(i*sz+k)%sz=k:=by rw[Nat.mul_comm,Nat.mul_add_mod];exact Nat.mod_eq_of_lt hk'
     simp[hb,hne,hzs,hmod,hk']
    ·rw[←hz2]at hk
     simp only[List.getElem?_map,Option.map_eq_some_iff]at hk
     obtain⟨_,⟨y,hy,rfl⟩,rfl⟩:=hk
     have:zv.cells[k]? =some y:=by simpa using hy
     have hk2:k<zv.cells.size:=by omega
     rw[Array.getElem?_eq_getElem hk2]at this
     obtain rfl:=Option.some.inj this
     exact(Conc.lit _).nzs σ)
  refine⟨.slice (some ⟨w.heap.size,0,none⟩) a a,_,_,_,_,?_,hK,hs2,?_,hf2⟩
  ·have c1:¬((a:Int)<0):=by omega
   have c2:¬(281474976710656<(bytes:Int)*(a:Int)):=by omega
   simp only[Instr.makeSlice,Sem.run_bind,ZH g1,Result.andThen_ok]
   simp[asInt,asIntOf,typeInfo,g2,g4,hwrap,c1,c2,hsz]
   by_cases hz:a*sz=0
   ·have e0:∀f:Nat->Value,(Array.range 0).map f=#[]:=fun f=>by apply Array.eq_empty_of_size_eq_zero;simp
    have:us=#[]:=by apply Array.eq_empty_of_size_eq_zero;omega
    simp[hz,this,e0,newRow]
   ·simp only[hz,if_false]at hus
    simp[hz1,hus,newRow]
    exact fun h=>absurd h hz
  ·have hmn:m.n=σ.length:=h.n
   rw[←hmn]
   have:=Conc.ownArr (B:=B) (W:=Av (m.push (.arr w.heap.size sz a))) (w:=w.alloc (.cells us e)) (m:=m.push (.arr w.heap.size sz a)) m.n w.heap.size sz a a us e
    (by simp[Map.push]) (Map.push_new _ _) (ZAr w _) (by rw[hus0];exact Nat.le_refl _) (Nat.le_refl _) id
   simpa using this
 ·exact hk.elim
end
end Go.Vl
namespace Go.Vl
open Go
section
variable {P : Program} {B : Nat} {w : World} {m : Map} {σ : ZA}
theorem ZJ9 {w w':World}(h:w'.heap=w.heap)(a:Addr):w'.cell? a=w.cell? a:=by simp[World.cell?,h]
theorem ZFR {b off sz : Nat} {es : List (List AV)} (hsz : ∀ e, e ∈ es -> e.length = sz)
    (hc:∀(i:Nat) (e:List AV) (k:Nat) (x:AV),es[i]? =some e->e[k]? =some x->∃y:Value,w.cell? ⟨b,off+i*sz+k,none⟩=some y/\Conc B (Av m) w m x y):
    ∃us:Array Value,(∀w',w'.heap=w.heap->(loadCells ⟨b,off,none⟩ (es.length*sz)).run P w'=.ok us w')/\us.size=es.length*sz/\
      ∀(i:Nat) (e:List AV) (k:Nat) (x:AV),es[i]? =some e->e[k]? =some x->∃y:Value,us[i*sz+k]? =some y/\Conc B (Av m) w m x y:=by
  have key:∀j,∃y:Value,j<es.length*sz->w.cell? ⟨b,off+j,none⟩=some y/\∀(e:List AV) (x:AV),es[j/sz]? =some e->e[j%sz]? =some x->Conc B (Av m) w m x y:=by
    intro j
    by_cases hj:j<es.length*sz
    · have hs0 : 0 < sz := by rcases Nat.eq_zero_or_pos sz with h | h; · subst h; simp at hj
                              exact h
      have hi:j/sz<es.length:=by rw[Nat.div_lt_iff_lt_mul hs0];exact hj
      have he:es[j/sz]? =some es[j/sz]:=by simp[hi]
      have hk:j%sz<es[j/sz].length:=by rw[hsz _ (List.getElem_mem hi)];exact Nat.mod_lt _ hs0
      obtain⟨y,h1,h2⟩:=hc (j/sz) es[j/sz] (j%sz) es[j/sz][j%sz] he (by simp[hk])
      refine⟨y,fun _=>⟨?_,fun e x he' hx'=> ?_⟩⟩
      · rw[←h1];congr 2;have:=Nat.div_add_mod j sz;rw[Nat.mul_comm]at this;omega
      · rw[he]at he';obtain rfl:=Option.some.inj he'
        rw[List.getElem?_eq_getElem hk]at hx';obtain rfl:=Option.some.inj hx'
        exact h2
    · exact⟨undef,fun h=>absurd h hj⟩
  obtain⟨f,hf⟩:=Classical.axiomOfChoice key
  refine⟨_,fun w' hw'=>run_loadCells w' _ (es.length*sz) f (fun j hj=>by rw[ZBd,ZJ9 hw'];exact(hf j hj).1),by simp,fun i e k x hi hk=> ?_⟩
  have hi':=(List.getElem?_eq_some_iff.1 hi).1
  have hk':k<sz:=by rw[←hsz e (List.mem_of_getElem? hi)];exact(List.getElem?_eq_some_iff.1 hk).1
  have hb:i*sz+k<es.length*sz:=by
    have:(i+1)*sz<=es.length*sz:=Nat.mul_le_mul_right sz hi'
    rw[Nat.add_mul,Nat.one_mul]at this;omega
  have hd:(i*sz+k)/sz=i:=by
    rw[Nat.mul_comm,Nat.mul_add_div (by omega),Nat.div_eq_of_lt hk',Nat.add_zero]
  have hm:(i*sz+k)%sz=k:=by rw[Nat.mul_comm,Nat.mul_add_mod];exact Nat.mod_eq_of_lt hk'
  exact⟨f (i*sz+k),by simp[hb],(hf _ hb).2 e x (by rw[hd];exact hi) (by rw[hm];exact hk)⟩
theorem ZAd (h : Sim B m σ w) {x : AV} {K : List (List AV) -> Prop} (hk : ZCy σ x K) {u : Value} (hx : Conc B (Av m) w m x u) :
    ∃es,K es/\(Builtin.lenOf u).run P w=.ok es.length w/\∀sz,(∀e,e∈es->e.length=sz)->
      ∃us:Array Value,(∀w',w'.heap=w.heap->(Builtin.firstCells sz es.length u).run P w'=.ok us w')/\us.size=es.length*sz/\
      ∀(i:Nat) (e:List AV) (k:Nat) (x:AV),es[i]? =some e->e[k]? =some x->∃y:Value,us[i*sz+k]? =some y/\Conc B (Av m) w m x y:=by
  have empty : ∀ (a : Option Addr) (cap : Nat), (Builtin.lenOf (.slice a 0 cap)).run P w = .ok ([] : List (List AV)).length w /\ ∀ sz, (∀ e, e ∈ ([] : List (List AV)) -> e.length = sz) ->
      ∃us:Array Value,(∀w',w'.heap=w.heap->(Builtin.firstCells sz ([]:List (List AV)).length (.slice a 0 cap)).run P w'=.ok us w')/\us.size=([]:List (List AV)).length*sz/\
      ∀(i:Nat) (e:List AV) (k:Nat) (x:AV),([]:List (List AV))[i]? =some e->e[k]? =some x->∃y:Value,us[i*sz+k]? =some y/\Conc B (Av m) w m x y:=by
    intro a cap
    refine⟨by simp[Builtin.lenOf],fun sz _=>⟨#[],fun w' _=> ?_,by simp,fun i e k x hi=>by simp at hi⟩⟩
    cases a<;>simp[Builtin.firstCells,loadCells,loadCellsFrom]
  unfold ZCy at hk
  split at hk
  · next es=>
    cases hx with
    |arrNil a cap=>exact⟨[],hk,empty a cap⟩
    |arr es b off sz cap ys hB hs hW hb hcap hc hx=>
      refine⟨es,hk,by simp[Builtin.lenOf],fun sz' hs'=> ?_⟩
      by_cases he:es=[]
      · subst he
        have:=(empty (some ⟨b,off,none⟩) cap).2 sz' hs'
        exact this
      · have:sz'=sz:=by
          cases es with
          |nil=>exact absurd rfl he
          |cons e r=>rw[←hs e (by simp),←hs' e (by simp)]
        subst this
        simp only[Builtin.firstCells]
        exact ZFR hs fun i e k x hi hk=>⟨_,hc i e k x hi hk,(hx i e k x hi hk).shift m⟩
  · obtain rfl:=Conc.lit_inv hx
    exact⟨[],hk,empty none 0⟩
  · obtain rfl:=Conc.lit_inv hx
    exact⟨[],hk,empty _ _⟩
  · next l k=>
    split at hk
    · next sz es he=>
      obtain⟨hn,hk⟩:=hk
      obtain⟨hsz,hB,hcase⟩:=h.elts he
      rcases hcase with⟨h1,rfl⟩|⟨b,ccs,ty,h1,h2,h3,h4⟩
      · cases hx with
        |ownOther l n ao co hl hk' _=>have:=hk' 0 (by rw[h1];rfl);simp at hn;omega
        |ownNil l a hl hk'=>exact⟨[],hk,empty a 0⟩
        |ownArr l b sz' len cap ccs ty hl hk'=>rw[h1]at hk';cases hk'
      · cases hx with
        |ownOther l n ao co hl hk' _=>have:=hk' es.length (by rw[h1];rfl);omega
        |ownNil l a hl hk'=>rw[h1]at hk';cases hk'
        |ownArr l b' sz' len cap ccs' ty' hl' hk' hh hcap hlen=>
          rw[h1]at hk';obtain⟨rfl,rfl,_⟩:=MS.arr.inj hk'
          refine⟨es,hk,by simp[Builtin.lenOf,hn],fun sz' hs'=> ?_⟩
          by_cases hes:es=[]
          · subst hes
            have:=(empty (some ⟨b,0,none⟩) cap).2 sz' hs'
            simp at hn;subst hn;exact this
          · have:sz'=sz:=by
              cases es with
              |nil=>exact absurd rfl hes
              |cons e r=>rw[←hsz e (by simp),←hs' e (by simp)]
            subst this
            simp only[Builtin.firstCells]
            exact ZFR hsz fun i e k x hi hk=>by
              obtain⟨y,hy,hc⟩:=h4 i e k x hi hk
              exact⟨y,by rw[ZBF h2,Nat.zero_add];exact hy,hc⟩
    · exact hk.elim
  · exact hk.elim
theorem ZFa (newLen:Nat):∀r c,Builtin.growBy newLen r c<=c∨Builtin.growBy newLen r c<=2*newLen+192
  |0,c=>.inl (Nat.le_refl _)
  |r+1,c=>by
    unfold Builtin.growBy
    split
    · exact .inl (Nat.le_refl _)
    · rcases ZFa newLen r (c+(c+768)/4)with h|h
      · right;omega
      · exact .inr h
theorem ZMx {need cap:Nat}(h:cap<need):Builtin.nextslicecap need cap<=2*need+1024:=by
  unfold Builtin.nextslicecap
  split
  · omega
  · split
    · omega
    · rcases ZFa need 4 cap with h|h<;>omega
def Map.setS (m:Map)(l:Nat)(s:MS):Map:=⟨fun j=>if j=l then s else m.f j,m.n,m.av⟩
theorem Map.setS_same (m:Map)(l:Nat)(s:MS):(m.setS l s).f l=s:=by simp[Map.setS]
theorem Map.setS_other (m:Map)(l:Nat)(s:MS){j:Nat}(h:j≠l):(m.setS l s).f j=m.f j:=by simp[Map.setS,h]
theorem ZDp (z:Array Value)(n:Nat):(Builtin.zeroCells z n).size=n*z.size:=by simp[Builtin.zeroCells]
theorem ZDh {t t2 : TypeId} {e e2 : TypeId} {ie : TypeInfo} {sz : Nat} (g1 : P.underlying t = some (.slice e)) (g2 : P.info? e = some ie) (g3 : ie.size = sz)
    (gt2:P.underlying t2=some (.slice e2)) (hz:(ZAU ie).length=sz) (hz0:sz≠0) (hb0:ie.bytes≠0)
    {base:Option Addr} {cap:Nat} {es new:List (List AV)} {u:Value} (ty:TypeId)
    (hcap:cap<es.length+new.length)
    (hold:∃us:Array Value,(Builtin.firstCells sz es.length (.slice base es.length cap)).run P w.drew=.ok us w.drew/\us.size=es.length*sz/\
      ∀(i:Nat) (e:List AV) (k:Nat) (x:AV),es[i]? =some e->e[k]? =some x->∃y:Value,us[i*sz+k]? =some y/\Conc B (Av m) w m x y)
    (hlen:(Builtin.lenOf u).run P w=.ok new.length w)
    (hnw:∃us:Array Value,(Builtin.firstCells sz new.length u).run P w.drew=.ok us w.drew/\us.size=new.length*sz/\
      ∀(i:Nat) (e:List AV) (k:Nat) (x:AV),new[i]? =some e->e[k]? =some x->∃y:Value,us[i*sz+k]? =some y/\Conc B (Av m) w m x y)
    (hbytes:(2*(es.length+new.length)+1024)*ie.bytes<=281474976710656):
    ∃(us:Array Value) (c:Nat),(Builtin.append_ #[t,t2] ty #[.slice base es.length cap,u]).run P w=.ok (.slice (some ⟨w.heap.size,0,none⟩) (es.length+new.length) c) (w.drew.alloc (.cells us e))/\
      es.length+new.length<=c/\c*sz<=us.size/\
      ∀(i:Nat) (e:List AV) (k:Nat) (x:AV),(es++new)[i]? =some e->e[k]? =some x->∃y:Value,us[i*sz+k]? =some y/\Conc B (Av m) w m x y:=by
  obtain⟨us1,r1,s1,c1⟩:=hold
  obtain⟨us2,r2,s2,c2⟩:=hnw
  have hsz:∀w:World,(sizeOf e).run P w=.ok sz w:=fun w=>by simp[sizeOf,typeInfo,g2,g3]
  have hzne:ZAU ie≠[]:=by intro hz';rw[hz']at hz;exact hz0 hz.symm
  obtain⟨zv,hz1,hz2⟩:=ZBx (P:=P) (w:=w.drew) g2 hzne
  have hzs:zv.cells.size=sz:=by rw[←hz,←hz2];simp
  generalize hc:(Question.appendCap (es.length+new.length) cap e).cut (w.tape w.drawn (Question.appendCap (es.length+new.length) cap e))=c
  have hcge:es.length+new.length<=c:=by rw[←hc];simp[Question.cut]
  refine⟨us1++us2++Builtin.zeroCells zv.cells (c- (es.length+new.length)),c,?_,hcge,?_,fun i e' k x hi hk=> ?_⟩
  · have n1:¬(es.length+new.length<=cap):=by omega
    have n2:¬(281474976710656<Builtin.nextslicecap (es.length+new.length) cap*ie.bytes):=by
      have h1:Builtin.nextslicecap (es.length+new.length) cap*ie.bytes<=(2*(es.length+new.length)+1024)*ie.bytes:=Nat.mul_le_mul_right _ (ZMx hcap)
      omega
    simp[Builtin.append_,ZH g1,ZH gt2,hsz,hlen,n1,typeInfo,g2,n2,Question.forced,hc,r1,r2,hz1,newRow]
    exact fun _ h0=>absurd h0 hb0
  · simp only[Array.size_append,ZDp,hzs,s1,s2]
    have:c*sz=(es.length+new.length)*sz+(c- (es.length+new.length))*sz:=by rw[←Nat.add_mul];congr 1;omega
    rw[this,Nat.add_mul];omega
  · by_cases hi':i<es.length
    · rw[List.getElem?_append_left hi']at hi
      obtain⟨y,hy,hxy⟩:=c1 i e' k x hi hk
      have:=(Array.getElem?_eq_some_iff.1 hy).1
      exact⟨y,by rw[Array.append_assoc,Array.getElem?_append_left this];exact hy,hxy⟩
    · rw[List.getElem?_append_right (by omega)]at hi
      obtain⟨y,hy,hxy⟩:=c2 _ e' k x hi hk
      have hlt:=(Array.getElem?_eq_some_iff.1 hy).1
      have hpos:i*sz+k=us1.size+((i-es.length)*sz+k):=by
        rw[s1,Nat.sub_mul]
        have:es.length*sz<=i*sz:=Nat.mul_le_mul_right sz (by omega)
        omega
      refine⟨y,?_,hxy⟩
      rw[hpos,Array.append_assoc,Array.getElem?_append_right (by omega),Nat.add_sub_cancel_left,Array.getElem?_append_left hlt]
      exact hy
theorem Fr.setNew {l : Nat} {s : MS} (hle : (m.f l).le s) {w' : World} (hsize : w.heap.size <= w'.heap.size) (hk : ∀ b, b < w.heap.size -> w'.heap[b]? = w.heap[b]?)
    (hs:∀b,s.has b->w.heap.size<=b) (h1:w'.tape=w.tape) (h2:w'.os=w.os) (h3:w'.output=w.output):Fr m w (m.setS l s) w' where
  size:=hsize
  keep b hb _:=hk b hb
  phys b ccs ty _ hh:=⟨ccs,by rw[hk b (Array.getElem?_eq_some_iff.1 hh).1,hh],rfl⟩
  fresh b:=by
    rintro⟨j,hj⟩
    by_cases e:j=l
    · subst e;rw[Map.setS_same]at hj;exact .inr (hs b hj)
    · rw[Map.setS_other m l s e]at hj;exact .inl ⟨j,hj⟩
  ids j _:=by
    by_cases e:j=l
    · subst e;rw[Map.setS_same];exact hle
    · rw[Map.setS_other m l s e];exact .inl rfl
  n:=Nat.le_refl _
  av:=rfl
  tape:=h1
  os:=h2
  output:=h3
theorem ZEw (h : Sim B m σ w) {t t2 ty : TypeId} {s x : AV} {K : AV -> ZA -> Prop} (hk : ZBv P B t t2 σ s x K) {u v : Value}
    (hs:Conc B (Av m) w m s u) (hx:Conc B (Av m) w m x v):Good B m w K ((Builtin.append_ #[t,t2] ty #[u,v]).run P w):=by
  unfold ZBv at hk
  split at hk
  · next sz bytes zs size z' e2 hti gt2=>
    obtain⟨hz,hz0,hb0,hk⟩:=hk
    obtain⟨e,ie,g1,g2,g3,rfl,rfl⟩:=ZBR hti
    have hsz:∀w:World,(sizeOf e).run P w=.ok sz w:=fun w=>by simp[sizeOf,typeInfo,g2,g3]
    obtain⟨new,⟨hnew,hok,hk⟩,hlen,hcells⟩:=ZAd (P:=P) h hk hx
    obtain⟨us2,r2,s2,c2⟩:=hcells sz hnew
    split at hk
    · -- nil
      obtain⟨hB,hbytes,hK⟩:=hk
      obtain rfl:=Conc.lit_inv hs
      by_cases h0:new.length=0
      · have hn0:new=[]:=List.eq_nil_of_length_eq_zero h0
        subst hn0
        have hfr:Fr m w (m.push .nil) w:=Fr.push h _ (Nat.le_refl _) (fun _ _=>rfl) (fun b hb=>by simp[MS.has]at hb) rfl rfl rfl
        refine⟨.slice none 0 0,_,_,_,w,?_,hK,h.push .nil (.elems sz []) hfr (fun _ _=>rfl) (fun b hb=>by simp[MS.has]at hb) ⟨by simp,by simp,.inl ⟨rfl,rfl⟩⟩,?_,hfr⟩
        · have r2':(Builtin.firstCells sz 0 v).run P w=.ok us2 w:=r2 w rfl
          simp only[List.length_nil]at hlen
          simp[Builtin.append_,ZH g1,ZH gt2,hsz,hlen,r2']
        · rw[←h.n];exact .ownNil m.n none (by simp[Map.push]) (Map.push_new _ _)
      · obtain⟨us,c,hrun,hc1,hc2,hc3⟩:=ZDh (base:=none) (cap:=0) (es:=[]) (new:=new) (u:=v) (m:=m) (B:=B) g1 g2 g3 gt2 hz hz0 hb0 ty (by simp;omega)
          ⟨#[],by simp[Builtin.firstCells],by simp,fun i e k x hi=>by simp at hi⟩ hlen ⟨us2,r2 w.drew rfl,s2,c2⟩ (by simpa using hbytes)
        have hcap:new.length<=c:=by simpa using hc1
        obtain⟨hf2,hs2⟩:=h.elems sz new us e (w':=w.drew) (.inr rfl) hnew (by simpa using hB) (Nat.le_trans (Nat.mul_le_mul_right sz hcap) hc2)
          (fun i e k x hi hk=>hc3 i e k x (by simpa using hi) hk)
        refine⟨_,_,_,_,_,hrun,hK,hs2,?_,hf2⟩
        rw[←h.n]
        have:=Conc.ownArr (B:=B) (W:=Av (m.push (.arr w.heap.size sz new.length))) (w:=w.drew.alloc (.cells us e)) (m:=m.push (.arr w.heap.size sz new.length)) m.n w.heap.size sz new.length c us e
          (by simp[Map.push]) (Map.push_new _ _) (ZAr w.drew _) hc2 hcap (fun h=>absurd h h0)
        simpa using this
    · -- own
      next l n hk=>
      split at hk
      · next sz' es he=>
        obtain⟨hn,rfl,hB,hbytes,hK⟩:=hk
        obtain⟨hsz1,hB1,hcase⟩:=h.elts he
        have hold:=ZAd (P:=P) h (x:=.own l n) (K:=fun es'=>es'=es) (by simp[ZCy,he,hn]) hs
        obtain⟨es',rfl,hl1,hc1⟩:=hold
        obtain⟨us1,r1,s1,c1⟩:=hc1 sz' hsz1
        obtain⟨base,cap,rfl⟩:∃base cap,u=.slice base n cap:=by
          rcases hcase with⟨h1,rfl⟩|⟨b,ccs,ty',h1,h2,h3,h4⟩
          · cases hs with
            |ownOther l n ao co hl hk' _=>have:=hk' 0 (by rw[h1];rfl);simp at hn;omega
            |ownNil l a hl hk'=>exact⟨a,0,rfl⟩
            |ownArr l b sz' len cap ccs ty hl hk'=>rw[h1]at hk';cases hk'
          · cases hs with
            |ownOther l n ao co hl hk' _=>have:=hk' es'.length (by rw[h1];rfl);omega
            |ownNil l a hl hk'=>rw[h1]at hk';cases hk'
            |ownArr l b sz' len cap ccs ty hl hk'=>exact⟨_,_,rfl⟩
        subst hn
        by_cases hfit:es'.length+new.length<=cap
        · -- there is room
          rcases hcase with⟨h1,rfl⟩|⟨b,ccs,ty',h1,h2,h3,h4⟩
          · have hcap0:cap=0:=by
              cases hs with
              |ownOther l n ao co hl hk' _=>have:=hk' 0 (by rw[h1];rfl);simp at this
              |ownNil l a hl hk'=>rfl
              |ownArr l b sz' len cap ccs ty hl hk'=>rw[h1]at hk';cases hk'
            have hn0:new=[]:=List.eq_nil_of_length_eq_zero (by simp at hfit;omega)
            subst hn0 hcap0
            have hset:σ.set l (.elems sz' ([]++[]))=σ:=by
              apply List.ext_getElem?
              intro j
              by_cases hj:j=l
              · subst hj;rw[ZS he,he];rfl
              · rw[List.getElem?_set_ne (Ne.symm hj)]
            rw[hset]at hK
            refine⟨.slice base 0 0,_,_,m,w,?_,hK,h,by simpa using hs,Fr.refl m w⟩
            have r2':(Builtin.firstCells sz' 0 v).run P w=.ok us2 w:=r2 w rfl
            have hus2:us2=#[]:=by apply Array.eq_empty_of_size_eq_zero;simpa using s2
            subst hus2
            simp only[List.length_nil]at hlen
            simp[Builtin.append_,ZH g1,ZH gt2,hsz,hlen,r2']
            cases base<;>simp[storeCells]
          · obtain⟨hu,hcs,hle,hz0'⟩:base=some ⟨b,0,none⟩/\cap*sz'<=ccs.size/\es'.length<=cap/\(es'.length=0->cap=0):=by
              generalize hnn:es'.length=nn at hs
              cases hs with
              |ownOther l n ao co hl hk' _=>have:=hk' es'.length (by rw[h1];rfl);omega
              |ownNil l a hl hk'=>rw[h1]at hk';cases hk'
              |ownArr l b' sz'' len cap ccs' ty hl hk' hh hcap hlen=>
                rw[h1]at hk';obtain⟨rfl,rfl,_⟩:=MS.arr.inj hk'
                rw[h2]at hh;obtain⟨rfl,rfl,_⟩:=Obj.cells.inj (Option.some.inj hh)
                exact⟨rfl,hcap,hlen,by assumption⟩
            subst hu
            have hblk:(m.f l).has b:=by rw[h1];rfl
            have hroom:es'.length*sz'+new.length*sz'<=ccs.size:=by
              have:(es'.length+new.length)*sz'<=cap*sz':=Nat.mul_le_mul_right sz' hfit
              rw[Nat.add_mul]at this;omega
            have hl2:us2.toList.length=new.length*sz':=by simp[s2]
            have hone:∀v,v∈us2.toList->v.oneCell'=true:=by
              intro y hy
              obtain⟨p,hp⟩:=List.getElem?_of_mem hy
              have hplt:p<new.length*sz':=by rw[←hl2];exact(List.getElem?_eq_some_iff.1 hp).1
              have hs0:0<sz':=by omega
              have hi:p/sz'<new.length:=by rw[Nat.div_lt_iff_lt_mul hs0];exact hplt
              have hk:p%sz'<new[p/sz'].length:=by rw[hnew _ (List.getElem_mem hi)];exact Nat.mod_lt _ hs0
              obtain⟨y',hy',hc'⟩:=c2 (p/sz') _ (p%sz') _ (List.getElem?_eq_getElem hi) (List.getElem?_eq_getElem hk)
              have hpe:p/sz'*sz'+p%sz'=p:=by have:=Nat.div_add_mod p sz';rw[Nat.mul_comm]at this;omega
              rw[hpe]at hy'
              have:us2[p]? =some y:=by simpa using hp
              rw[this]at hy';obtain rfl:=Option.some.inj hy'
              exact ZEi h hc' (ZBV (hok _ (List.getElem_mem hi)) (List.getElem?_eq_getElem hk))
            have hf:Fr m w (m.setS l (.arr b sz' (es'.length+new.length))) (Zw w b (wrArr ccs (es'.length*sz') us2.toList) ty'):=by
              refine Fr.put hblk h2 (Zk ..) _ (fun b' hb'=> ?_) (fun j hj=> ?_) (Nat.le_refl _) rfl
              · obtain⟨j,hj⟩:=hb'
                by_cases e:j=l
                · subst e;rw[Map.setS_same]at hj;simp[MS.has]at hj;subst hj;exact⟨j,hblk⟩
                · rw[Map.setS_other m l _ e]at hj;exact⟨j,hj⟩
              · by_cases e:j=l
                · subst e;rw[Map.setS_same,h1]
                  by_cases h0:new.length=0
                  · rw[h0,Nat.add_zero];exact .inl rfl
                  · exact .inr (.inr (.inl ⟨_,_,rfl,rfl,by omega⟩))
                · rw[Map.setS_other m l _ e];exact .inl rfl
            have hphys:(Zw w b (wrArr ccs (es'.length*sz') us2.toList) ty').heap[b]? =some (.cells (wrArr ccs (es'.length*sz') us2.toList) ty' (0,0)):=ZAW h2
            refine⟨.slice (some ⟨b,0,none⟩) (es'.length+new.length) cap,_,_,m.setS l (.arr b sz' (es'.length+new.length)),_,?_,hK,?_,?_,hf⟩
            · have:=ZAf (P:=P) b ty' (es'.length*sz') us2.toList w ccs 0 h2 hone (by rw[hl2];omega)
              simp[Builtin.append_,ZH g1,ZH gt2,hsz,hlen,hfit,r2 w rfl,ZBd,this]
            · refine h.upd hf l (by simp[Map.setS,h.n]) (fun j hj=>⟨by rw[List.getElem?_set_ne (Ne.symm hj)],Map.setS_other m l _ hj⟩) (fun j b' hj hb'=> ?_) ?_ ?_
              · exact ZAK fun e=>hj (h.inj j l b' hb' (e▸hblk))
              · rw[ZS he,Map.setS_same]
                refine⟨fun e he=> ?_,by simpa using hB,.inr ⟨b,_,ty',by simp,hphys,?_,fun i e k x hi hk=> ?_⟩⟩
                · rcases List.mem_append.1 he with he|he
                  · exact hsz1 e he
                  · exact hnew e he
                · rw[Zk,List.length_append,Nat.add_mul];exact hroom
                · rw[ZAl _ _ _ _ (by rw[hl2];exact hroom),hl2]
                  by_cases hi':i<es'.length
                  · rw[List.getElem?_append_left hi']at hi
                    have hk':k<sz':=by rw[←hsz1 e (List.mem_of_getElem? hi)];exact(List.getElem?_eq_some_iff.1 hk).1
                    have:(i+1)*sz'<=es'.length*sz':=Nat.mul_le_mul_right sz' hi'
                    rw[Nat.add_mul,Nat.one_mul]at this
                    rw[if_neg (by omega)]
                    obtain⟨y,hy,hc⟩:=h4 i e k x hi hk
                    exact⟨y,hy,hc.mono hf⟩
                  · rw[List.getElem?_append_right (by omega)]at hi
                    have hk':k<sz':=by rw[←hnew e (List.mem_of_getElem? hi)];exact(List.getElem?_eq_some_iff.1 hk).1
                    obtain⟨y,hy,hc⟩:=c2 _ e k x hi hk
                    have hlt:=(Array.getElem?_eq_some_iff.1 hy).1
                    have hpos:i*sz'+k=es'.length*sz'+((i-es'.length)*sz'+k):=by
                      rw[Nat.sub_mul]
                      have:es'.length*sz'<=i*sz':=Nat.mul_le_mul_right sz' (by omega)
                      omega
                    rw[if_pos (by omega),hpos,Nat.add_sub_cancel_left]
                    exact⟨y,by simpa using hy,hc.mono hf⟩
              · intro j b' hj hb' hb''
                rw[Map.setS_same]at hb'';simp[MS.has]at hb'';subst hb''
                exact hj (h.inj j l _ hb' hblk)
            · exact .ownArr l b sz' _ cap _ ty' (by have:=(List.getElem?_eq_some_iff.1 he).1;simp[Map.setS,h.n];exact this) (Map.setS_same _ _ _) hphys (by rw[Zk];exact hcs) hfit (fun h=>hz0' (by omega))
        · -- it grows
          obtain⟨us,c,hrun,hc1,hc2,hc3⟩:=ZDh (base:=base) (cap:=cap) (es:=es') (new:=new) (u:=v) (m:=m) (B:=B) g1 g2 g3 gt2 hz hz0 hb0 ty (by omega)
            ⟨us1,r1 w.drew rfl,s1,c1⟩ hlen ⟨us2,r2 w.drew rfl,s2,c2⟩ hbytes
          have hl:l<m.n:=by rw[h.n];exact(List.getElem?_eq_some_iff.1 he).1
          have hnpos:0<new.length:=by
            have:es'.length<=cap:=by
              rcases hcase with⟨h1,rfl⟩|⟨b,ccs,ty',h1,h2,h3,h4⟩
              · simp
              · generalize hnn:es'.length=nn at hs
                cases hs with
                |ownOther l n ao co hl hk' _=>have:=hk' es'.length (by rw[h1];rfl);omega
                |ownNil l a hl hk'=>rw[h1]at hk';cases hk'
                |ownArr l b sz' len cap ccs ty hl hk' hh hcap hlen=>exact hlen
            omega
          have hle:(m.f l).le (.arr w.heap.size sz' (es'.length+new.length)):=by
            rcases hcase with⟨h1,rfl⟩|⟨b,ccs,ty',h1,h2,h3,h4⟩
            · rw[h1];exact .inr (.inr (.inl ⟨0,_,rfl,rfl,by simp;exact hnpos⟩))
            · rw[h1];exact .inr (.inr (.inl ⟨_,_,rfl,rfl,by omega⟩))
          have hk':∀b,b<w.heap.size->(w.drew.alloc (.cells us e)).heap[b]? =w.heap[b]? :=fun b hb=>ZCN w.drew _ hb
          have hf:Fr m w (m.setS l (.arr w.heap.size sz' (es'.length+new.length))) (w.drew.alloc (.cells us e)):=
            Fr.setNew hle (by simp) hk' (fun b hb=>by simp[MS.has]at hb;omega) rfl rfl rfl
          have hnewb:(w.drew.alloc (.cells us e)).heap[w.heap.size]? =some (.cells us e (0,0)):=ZAr w.drew _
          refine⟨_,_,_,m.setS l (.arr w.heap.size sz' (es'.length+new.length)),_,hrun,hK,?_,?_,hf⟩
          · refine h.upd hf l (by simp[Map.setS,h.n]) (fun j hj=>⟨by rw[List.getElem?_set_ne (Ne.symm hj)],Map.setS_other m l _ hj⟩) (fun j b' hj hb'=>hk' b' (h.lt_of_blk hb')) ?_ ?_
            · rw[ZS he,Map.setS_same]
              refine⟨fun e he=> ?_,by simpa using hB,.inr ⟨w.heap.size,us,e,by simp,hnewb,?_,fun i e k x hi hk=> ?_⟩⟩
              · rcases List.mem_append.1 he with he|he
                · exact hsz1 e he
                · exact hnew e he
              · rw[List.length_append];exact Nat.le_trans (Nat.mul_le_mul_right sz' hc1) hc2
              · obtain⟨y,hy,hc⟩:=hc3 i e k x hi hk
                exact⟨y,hy,hc.mono hf⟩
            · intro j b' hj hb' hb''
              rw[Map.setS_same]at hb'';simp[MS.has]at hb'';subst hb''
              exact absurd (h.lt_of_blk hb') (Nat.lt_irrefl _)
          · exact .ownArr l w.heap.size sz' _ c us e (by simpa[Map.setS]using hl) (Map.setS_same _ _ _) hnewb hc2 hc1 (fun h=>by omega)
      · exact hk.elim
    · exact hk.elim
  · exact hk.elim
end
end Go.Vl
