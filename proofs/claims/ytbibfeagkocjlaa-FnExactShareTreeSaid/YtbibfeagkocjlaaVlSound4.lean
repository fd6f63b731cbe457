/- The value-level layer, part 8: slices that are made. -/
import Derived.Test.YtbibfeagkocjlaaVlSound3
set_option linter.all false
namespace Go.Vl
open Go
section
variable {P : Program} {B : Nat} {w : World} {m : Map} {σ : ZA}
theorem ZDi : ∀ (es : List (List AV)) (σ : ZA) (m : Map) (K : List (List AV) → ZA → Prop), Sim B m σ w → ZJ8 σ es K →
    ∀us:Nat→Nat→Value,(∀(i:Nat) (e:List AV) (k:Nat) (x:AV),es[i]? =some e→e[k]? =some x→Conc B (Av m) w m x (us i k))→
    ∃es' σ' m',K es' σ'∧es'.length=es.length∧(∀(i:Nat) (e':List AV),es'[i]? =some e'→∃e,es[i]? =some e∧e'.length=e.length)∧Sim B m' σ' w∧Fr m w m' w∧
      (∀(i:Nat) (e:List AV) (k:Nat) (x:AV),es'[i]? =some e→e[k]? =some x→Conc B (Av m') w m' x (us i k))
  | [],σ,m,K,h,hk,us,hc=>⟨[],σ,m,hk,rfl,fun i e hi=>by simp at hi,h,Fr.refl m w,fun i e k x hi=>by simp at hi⟩
  |e::r,σ,m,K,h,hk,us,hc=>by
    obtain⟨e',σ1,m1,hk1,hl1,hs1,hf1,hc1⟩:=ZBE e σ m _ h hk (us 0) (fun k x hk=>hc 0 e k x (by simp) hk)
    obtain⟨r',σ2,m2,hK,hl2,hl3,hs2,hf2,hc2⟩:=ZDi r σ1 m1 _ hs1 hk1 (fun i=>us (i+1)) (fun i e k x hi hk=>(hc (i+1) e k x (by simpa using hi) hk).mono hf1)
    refine⟨e'::r',σ2,m2,hK,by simp[hl2],fun i e'' hi=> ?_,hs2,hf1.trans hf2 h.mapOk,fun i e'' k x hi hk=> ?_⟩
    · cases i with
      |zero=>simp at hi;subst hi;exact⟨e,by simp,hl1⟩
      |succ i=>simpa using hl3 i e'' (by simpa using hi)
    · cases i with
      |zero=>simp at hi;subst hi;exact(hc1 k x hk).mono hf2
      |succ i=>exact hc2 i e'' k x (by simpa using hi) hk
theorem ZDo (h:Sim B m σ w)(sz:Nat):∀(parts:List (Nat×AV)) (vals:List (Nat×Value)) (j:Nat) (us:Array Value) (K:List (List AV)→Prop),
    parts.length=vals.length→(∀(i:Nat) p q,parts[i]? =some p→vals[i]? =some q→p.1=q.1∧Conc B (Av m) w m p.2 q.2)→(j+parts.length)*sz≤us.size→
    ZBZ σ sz j parts K→∃es us',K es∧Instr.fill (fun i=>some (i*sz,sz)) us vals=some us'∧us'.size=us.size∧es.length=parts.length∧(∀e,e∈es→e.length=sz)∧
      (∀(i:Nat) (e:List AV) (k:Nat) (x:AV),es[i]? =some e→e[k]? =some x→∃y:Value,us'[(j+i)*sz+k]? =some y∧Conc B (Av m) w m x y)∧
      (∀p,p<j*sz→us'[p]? =us[p]?)
  | [],[],j,us,K,_,_,_,hk=>⟨[],us,hk,rfl,rfl,rfl,fun e he=>by simp at he,fun i e k x hi=>by simp at hi,fun p _=>rfl⟩
  | [],_::_,_,_,_,hl,_,_,_=>by simp at hl
  |_::_,[],_,_,_,hl,_,_,_=>by simp at hl
  |(i,x)::parts,(i',v)::vals,j,us,K,hl,hp,hsz,hk=>by
    obtain⟨h1,h2⟩:=hp 0 (i,x) (i',v) (by simp) (by simp)
    simp only at h1 h2;subst h1
    obtain⟨rfl,hk⟩:=hk
    obtain⟨e,⟨hs,hk⟩,hlen,hc⟩:=ZAe h hk h2
    have hre:=ZIC hlen hc
    have hsz':(i+1+parts.length)*sz≤(wrArr us (i*sz) v.cells.toList).size:=by
      rw[Zi];simp only[List.length_cons]at hsz;rw[show i+1+parts.length=i+(parts.length+1) by omega];exact hsz
    have h1sz:i*sz+sz≤us.size:=by
      have:(i+1)*sz≤(i+(parts.length+1))*sz:=Nat.mul_le_mul_right sz (by omega)
      rw[Nat.add_mul,Nat.one_mul]at this
      simp only[List.length_cons]at hsz;omega
    obtain⟨es,us',hK,hf,g1,g2,g3,g4,g5⟩:=ZDo h sz parts vals (i+1) _ _ (by simpa using hl) (fun k p q hi hq=>hp (k+1) p q (by simpa using hi) (by simpa using hq)) hsz' hk
    have hvl:v.cells.toList.length=sz:=by simp[hlen,hs]
    refine⟨e.map (Vl.nzs σ)::es,us',hK,?_,by rw[g1,Zi],by simp[g2],fun e' he'=> ?_,fun k e' k' x' hi hk'=> ?_,fun p hp'=> ?_⟩
    · simp only[Instr.fill]
      rw[if_neg (by simp[hlen,hs];omega),ZE1]
      exact hf
    · rcases List.mem_cons.1 he' with rfl|he'
      · simpa using hs
      · exact g3 e' he'
    · cases k with
      |zero=>
        simp at hi;subst hi
        rw[List.getElem?_map,Option.map_eq_some_iff]at hk'
        obtain⟨x0,hk',rfl⟩:=hk'
        have hk2:k'<sz:=by rw[←hs];exact(List.getElem?_eq_some_iff.1 hk').1
        rw[Nat.add_zero,g5 _ (by rw[Nat.add_mul,Nat.one_mul];omega),ZAl _ _ _ _ (by rw[hvl];exact h1sz),hvl,if_pos (by omega)]
        obtain⟨y,hy,hc'⟩:=hre.2 k' x0 hk'
        exact⟨y,by rw[Nat.add_sub_cancel_left];simpa using hy,hc'.nzs σ⟩
      |succ k=>
        have:=g4 k e' k' x' (by simpa using hi) hk'
        rw[show i+(k+1)=i+1+k by omega];exact this
    · rw[g5 p (by rw[Nat.add_mul,Nat.one_mul];omega),ZAl _ _ _ _ (by rw[hvl];exact h1sz),if_neg (by omega)]
theorem ZGL (es : List (List AV)) (σ : ZA) (m : Map) (K : List (List AV) → ZA → Prop) (h : Sim B m σ w) (hk : bfrzs σ es K)
    (us:Nat→Nat→Value) (hc:∀(i:Nat) (e:List AV) (k:Nat) (x:AV),es[i]? =some e→e[k]? =some x→Conc B (Av m) w m x (us i k)):
    ∃es' σ' m',K es' σ'∧es'.length=es.length∧(∀(i:Nat) (e':List AV),es'[i]? =some e'→∃e,es[i]? =some e∧e'.length=e.length)∧Sim B m' σ' w∧Fr m w m' w∧
      (∀(i:Nat) (e:List AV) (k:Nat) (x:AV),es'[i]? =some e→e[k]? =some x→Conc B (Av m') w m' x (us i k)):=by
  unfold bfrzs at hk
  split at hk
  · exact⟨es,σ,m,hk,rfl,fun i e hi=>⟨e,hi,rfl⟩,h,Fr.refl m w,hc⟩
  · exact ZDi es σ m K h hk us hc
theorem ZCV (h : Sim B m σ w) {t : TypeId} {len : Nat} {parts : List (Nat × AV)} {K : AV → ZA → Prop} (hk : Zq P B t σ len parts K) {vals : Array (Nat × Value)}
    (hl:parts.length=vals.size) (hp:∀(i:Nat) p q,parts[i]? =some p→vals[i]? =some q→p.1=q.1∧Conc B (Av m) w m p.2 q.2):
    Good B m w K ((Instr.buildSlice t len vals).run P w):=by
  unfold Zq at hk
  split at hk
  · next sz by_ z size z' hti=>
    obtain⟨h1,h2,h3,h4,h5,hk⟩:=hk
    obtain⟨e,ie,g1,g2,g3,g4,g5⟩:=ZBO hti
    subst g5
    have hz0:ZAP ie≠[]:=by intro hz;rw[hz]at h4;exact h5 h4.symm
    obtain⟨zv,hz1,hz2⟩:=ZBs (P:=P) (w:=w) g2 hz0
    have hsz:(sizeOf e).run P w=.ok sz w:=by simp[sizeOf,typeInfo,g2,g3]
    generalize hzs:(Array.range (len*sz)).map (fun x=>if len*sz=0 then(#[]:Array Value)[x% (#[]:Array Value).size]! else zv.cells[x%zv.cells.size]!)=us0
    have hus0:us0.size=len*sz:=by rw[←hzs];simp
    obtain⟨es,us,hK,hf,k1,k2,k3,k4,_⟩:=ZDo h sz parts vals.toList 0 us0 _ (by simpa using hl) (fun i p q hi hq=>hp i p q hi (by simpa using hq)) (by rw[hus0,h1];simp) hk
    obtain⟨es',σ',m',hK',l1,l2,hs,hfr,hc⟩:=ZGL es σ m _ h hK (fun i k=>us.getD (i*sz+k) undef) (fun i e k x hi hk=>by
      obtain⟨y,hy,hxy⟩:=k4 i e k x hi hk
      rw[Nat.zero_add]at hy
      have:us.getD (i*sz+k) undef=y:=by simp[Array.getD_eq_getD_getElem?,hy]
      rw[this];exact hxy)
    have hes:∀e,e∈es'→e.length=sz:=by
      intro e' he'
      obtain⟨i,hi⟩:=List.getElem?_of_mem he'
      obtain⟨e0,he0,hl0⟩:=l2 i e' hi
      rw[hl0];exact k3 e0 (List.mem_of_getElem? he0)
    have hlen':es'.length=len:=by rw[l1,k2,h1]
    obtain⟨hf2,hs2⟩:=hs.elems sz es' us e (w':=w) (.inl rfl) hes (by rw[hlen'];exact h3) (by rw[hlen',k1,hus0];exact Nat.le_refl _)
      (fun i e k x hi hk=>by
        have hcc:=hc i e k x hi hk
        have hi':i<es'.length:=(List.getElem?_eq_some_iff.1 hi).1
        have hk':k<sz:=by rw[←hes e (List.mem_of_getElem? hi)];exact(List.getElem?_eq_some_iff.1 hk).1
        have hb:i*sz+k<us.size:=by
          rw[k1,hus0]
          have:(i+1)*sz≤len*sz:=Nat.mul_le_mul_right sz (by omega)
          rw[Nat.add_mul,Nat.one_mul]at this;omega
        refine⟨us[i*sz+k],by simp[hb],?_⟩
        have:us.getD (i*sz+k) undef=us[i*sz+k]:=by simp[Array.getD,hb]
        rw[this]at hcc;exact hcc)
    refine⟨.slice (some ⟨w.heap.size,0,none⟩) len len,_,_,_,_,?_,hK',hs2,?_,hfr.trans hf2 h.mapOk⟩
    · have hf':Instr.fill (fun i=>some (i*sz,sz)) ((Array.range (len*sz)).map (fun x=>if len*sz=0 then(#[]:Array Value)[x% (#[]:Array Value).size]! else zv.cells[x%zv.cells.size]!)) vals.toList=some us:=by rw[hzs];exact hf
      simp only[Instr.buildSlice,Sem.run_bind,ZF g1,Result.andThen_ok,hsz]
      rw[if_neg (by omega)]
      by_cases h0:len*sz=0
      · have e0:∀f:Nat→Value,(Array.range 0).map f=#[]:=fun f=>by apply Array.eq_empty_of_size_eq_zero;simp
        simp only[h0,if_true,e0]at hf'
        simp[h0,e0,hf',newRow]
      · simp only[h0,if_false]at hf'
        simp[h0,hf',newRow,hz1]
    · have hmn:m'.n=σ'.length:=hs.n
      rw[←hmn]
      have:=Conc.ownArr (B:=B) (W:=Av (m'.push (.arr w.heap.size sz es'.length))) (w:=w.alloc (.cells us e)) (m:=m'.push (.arr w.heap.size sz es'.length)) m'.n w.heap.size sz es'.length es'.length us e
        (by simp[Map.push]) (Map.push_new _ _) (ZAt w _) (by rw[hlen',k1,hus0];exact Nat.le_refl _) (Nat.le_refl _) id
      rw[hlen']at this
      rw[hlen'];exact this
  · exact hk.elim
theorem ZCf (h : Sim B m σ w) {t : TypeId} {l c : AV} {K : AV → ZA → Prop} (hk : ZAF P B t σ l c K) {u v : Value}
    (hx:Conc B (Av m) w m l u) (hy:Conc B (Av m) w m c v):Good B m w K ((Instr.makeSlice t u v).run P w):=by
  unfold ZAF at hk
  split at hk
  · next sz bytes z size z' k n k' n' hti=>
    obtain⟨rfl,h0,hmax,hb,hB,hz,hsz0,hK⟩:=hk
    obtain rfl:=Conc.lit_inv hx
    obtain rfl:=Conc.lit_inv hy
    obtain⟨e,ie,g1,g2,g3,g4,g5⟩:=ZBO hti
    subst g5
    obtain⟨a,rfl⟩:∃a:Nat,n=a:=⟨n.toNat,by omega⟩
    simp only[Int.toNat_natCast]at hB hK
    have hz0:ZAP ie≠[]:=by intro hz';rw[hz']at hz;exact hsz0 hz.symm
    obtain⟨zv,hz1,hz2⟩:=ZBs (P:=P) (w:=w) g2 hz0
    have hsz:(sizeOf e).run P w=.ok sz w:=by simp[sizeOf,typeInfo,g2,g3]
    have hwrap:IntKind.i64.wrap (a:Int)=(a:Int):=by
      simp only[IntKind.wrap,IntKind.bits,IntKind.signed];simp;omega
    have hzs:zv.cells.size=sz:=by rw[←hz,←hz2];simp
    generalize hus:(Array.range (a*sz)).map (fun x=>if a*sz=0 then(#[]:Array Value)[x% (#[]:Array Value).size]! else zv.cells[x%zv.cells.size]!)=us
    have hus0:us.size=a*sz:=by rw[←hus];simp
    have hes:∀e,e∈List.replicate a (((ZAP ie).map AV.lit).map (Vl.nzs σ))→e.length=sz:=by
      intro e' he';rw[List.eq_of_mem_replicate he'];simpa using hz
    obtain⟨hf2,hs2⟩:=h.elems sz (List.replicate a (((ZAP ie).map AV.lit).map (Vl.nzs σ))) us e (w':=w) (.inl rfl) hes (by simpa using hB) (by simp[hus0])
      (fun i e' k x hi hk=>by
        have hi':i<a:=by have:=(List.getElem?_eq_some_iff.1 hi).1;simpa using this
        have he':e'=((ZAP ie).map AV.lit).map (Vl.nzs σ):=List.eq_of_mem_replicate (List.mem_of_getElem? hi)
        subst he'
        have hk':k<sz:=by have:=(List.getElem?_eq_some_iff.1 hk).1;rw[←hz];simpa using this
        have hb:i*sz+k<a*sz:=by
          have:(i+1)*sz≤a*sz:=Nat.mul_le_mul_right sz (by omega)
          rw[Nat.add_mul,Nat.one_mul]at this;omega
        have hne:¬a*sz=0:=by omega
        refine⟨zv.cells[k]'(by omega),?_,?_⟩
        · rw[←hus]
          have hmod:(i*sz+k)%sz=k:=by rw[Nat.mul_comm,Nat.mul_add_mod];exact Nat.mod_eq_of_lt hk'
          simp[hb,hne,hzs,hmod,hk']
        · rw[←hz2]at hk
          simp only[List.getElem?_map,Option.map_eq_some_iff]at hk
          obtain⟨_,⟨y,hy,rfl⟩,rfl⟩:=hk
          have:zv.cells[k]? =some y:=by simpa using hy
          have hk2:k<zv.cells.size:=by omega
          rw[Array.getElem?_eq_getElem hk2]at this
          obtain rfl:=Option.some.inj this
          exact(Conc.lit _).nzs σ)
    refine⟨.slice (some ⟨w.heap.size,0,none⟩) a a,_,_,_,_,?_,hK,hs2,?_,hf2⟩
    · have c1:¬((a:Int)<0):=by omega
      have c2:¬(281474976710656<(bytes:Int)*(a:Int)):=by omega
      simp only[Instr.makeSlice,Sem.run_bind,ZF g1,Result.andThen_ok]
      simp[asInt,asIntOf,typeInfo,g2,g4,hwrap,c1,c2,hsz]
      by_cases hz:a*sz=0
      · have e0:∀f:Nat→Value,(Array.range 0).map f=#[]:=fun f=>by apply Array.eq_empty_of_size_eq_zero;simp
        have:us=#[]:=by apply Array.eq_empty_of_size_eq_zero;omega
        simp[hz,this,e0,newRow]
      · simp only[hz,if_false]at hus
        simp[hz1,hus,newRow]
        exact fun h=>absurd h hz
    · have hmn:m.n=σ.length:=h.n
      rw[←hmn]
      have:=Conc.ownArr (B:=B) (W:=Av (m.push (.arr w.heap.size sz a))) (w:=w.alloc (.cells us e)) (m:=m.push (.arr w.heap.size sz a)) m.n w.heap.size sz a a us e
        (by simp[Map.push]) (Map.push_new _ _) (ZAt w _) (by rw[hus0];exact Nat.le_refl _) (Nat.le_refl _) id
      simpa using this
  · exact hk.elim
end
end Go.Vl
