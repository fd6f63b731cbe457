/- The value-level layer, part 9: append. -/
import Derived.Test.YtbibfeagkocjlaaVlSound4
set_option linter.all false
namespace Go.Vl
open Go
section
variable {P : Program} {B : Nat} {w : World} {m : Map} {σ : ZA}
theorem ZJA {w w':World}(h:w'.heap=w.heap)(a:Addr):w'.cell? a=w.cell? a:=by simp[World.cell?,h]
theorem ZEq {b off sz : Nat} {es : List (List AV)} (hsz : ∀ e, e ∈ es → e.length = sz)
    (hc:∀(i:Nat) (e:List AV) (k:Nat) (x:AV),es[i]? =some e→e[k]? =some x→∃y:Value,w.cell? ⟨b,off+i*sz+k,none⟩=some y∧Conc B (Av m) w m x y):
    ∃us:Array Value,(∀w',w'.heap=w.heap→(loadCells ⟨b,off,none⟩ (es.length*sz)).run P w'=.ok us w')∧us.size=es.length*sz∧
      ∀(i:Nat) (e:List AV) (k:Nat) (x:AV),es[i]? =some e→e[k]? =some x→∃y:Value,us[i*sz+k]? =some y∧Conc B (Av m) w m x y:=by
  have key:∀j,∃y:Value,j<es.length*sz→w.cell? ⟨b,off+j,none⟩=some y∧∀(e:List AV) (x:AV),es[j/sz]? =some e→e[j%sz]? =some x→Conc B (Av m) w m x y:=by
    intro j
    by_cases hj:j<es.length*sz
    · have hs0 : 0 < sz := by rcases Nat.eq_zero_or_pos sz with h | h; · subst h; simp at hj
                              exact h
      have hi:j/sz<es.length:=by rw[Nat.div_lt_iff_lt_mul hs0];exact hj
      have he:es[j/sz]? =some es[j/sz]:=by simp[hi]
      have hk:j%sz<es[j/sz].length:=by rw[hsz _ (List.getElem_mem hi)];exact Nat.mod_lt _ hs0
      obtain⟨y,h1,h2⟩:=hc (j/sz) es[j/sz] (j%sz) es[j/sz][j%sz] he (by simp[hk])
      refine⟨y,fun _=>⟨?_,fun e x he' hx'=> ?_⟩⟩
      · rw[←h1];congr 2;have:=Nat.div_add_mod j sz;rw[Nat.mul_comm]at this;omega
      · rw[he]at he';obtain rfl:=Option.some.inj he'
        rw[List.getElem?_eq_getElem hk]at hx';obtain rfl:=Option.some.inj hx'
        exact h2
    · exact⟨undef,fun h=>absurd h hj⟩
  obtain⟨f,hf⟩:=Classical.axiomOfChoice key
  refine⟨_,fun w' hw'=>run_loadCells w' _ (es.length*sz) f (fun j hj=>by rw[ZBX,ZJA hw'];exact(hf j hj).1),by simp,fun i e k x hi hk=> ?_⟩
  have hi':=(List.getElem?_eq_some_iff.1 hi).1
  have hk':k<sz:=by rw[←hsz e (List.mem_of_getElem? hi)];exact(List.getElem?_eq_some_iff.1 hk).1
  have hb:i*sz+k<es.length*sz:=by
    have:(i+1)*sz≤es.length*sz:=Nat.mul_le_mul_right sz hi'
    rw[Nat.add_mul,Nat.one_mul]at this;omega
  have hd:(i*sz+k)/sz=i:=by
    rw[Nat.mul_comm,Nat.mul_add_div (by omega),Nat.div_eq_of_lt hk',Nat.add_zero]
  have hm:(i*sz+k)%sz=k:=by rw[Nat.mul_comm,Nat.mul_add_mod];exact Nat.mod_eq_of_lt hk'
  exact⟨f (i*sz+k),by simp[hb],(hf _ hb).2 e x (by rw[hd];exact hi) (by rw[hm];exact hk)⟩
theorem ZAd (h : Sim B m σ w) {x : AV} {K : List (List AV) → Prop} (hk : ZCb σ x K) {u : Value} (hx : Conc B (Av m) w m x u) :
    ∃es,K es∧(Builtin.lenOf u).run P w=.ok es.length w∧∀sz,(∀e,e∈es→e.length=sz)→
      ∃us:Array Value,(∀w',w'.heap=w.heap→(Builtin.firstCells sz es.length u).run P w'=.ok us w')∧us.size=es.length*sz∧
      ∀(i:Nat) (e:List AV) (k:Nat) (x:AV),es[i]? =some e→e[k]? =some x→∃y:Value,us[i*sz+k]? =some y∧Conc B (Av m) w m x y:=by
  have empty : ∀ (a : Option Addr) (cap : Nat), (Builtin.lenOf (.slice a 0 cap)).run P w = .ok ([] : List (List AV)).length w ∧ ∀ sz, (∀ e, e ∈ ([] : List (List AV)) → e.length = sz) →
      ∃us:Array Value,(∀w',w'.heap=w.heap→(Builtin.firstCells sz ([]:List (List AV)).length (.slice a 0 cap)).run P w'=.ok us w')∧us.size=([]:List (List AV)).length*sz∧
      ∀(i:Nat) (e:List AV) (k:Nat) (x:AV),([]:List (List AV))[i]? =some e→e[k]? =some x→∃y:Value,us[i*sz+k]? =some y∧Conc B (Av m) w m x y:=by
    intro a cap
    refine⟨by simp[Builtin.lenOf],fun sz _=>⟨#[],fun w' _=> ?_,by simp,fun i e k x hi=>by simp at hi⟩⟩
    cases a<;>simp[Builtin.firstCells,loadCells,loadCellsFrom]
  unfold ZCb at hk
  split at hk
  · next es=>
    cases hx with
    |arrNil a cap=>exact⟨[],hk,empty a cap⟩
    |arr es b off sz cap ys hB hs hW hb hcap hc hx=>
      refine⟨es,hk,by simp[Builtin.lenOf],fun sz' hs'=> ?_⟩
      by_cases he:es=[]
      · subst he
        have:=(empty (some ⟨b,off,none⟩) cap).2 sz' hs'
        exact this
      · have:sz'=sz:=by
          cases es with
          |nil=>exact absurd rfl he
          |cons e r=>rw[←hs e (by simp),←hs' e (by simp)]
        subst this
        simp only[Builtin.firstCells]
        exact ZEq hs fun i e k x hi hk=>⟨_,hc i e k x hi hk,(hx i e k x hi hk).shift m⟩
  · obtain rfl:=Conc.lit_inv hx
    exact⟨[],hk,empty none 0⟩
  · obtain rfl:=Conc.lit_inv hx
    exact⟨[],hk,empty _ _⟩
  · next l k=>
    split at hk
    · next sz es he=>
      obtain⟨hn,hk⟩:=hk
      obtain⟨hsz,hB,hcase⟩:=h.elts he
      rcases hcase with⟨h1,rfl⟩|⟨b,ccs,ty,h1,h2,h3,h4⟩
      · cases hx with
        |ownOther l n ao co hl hk' _=>have:=hk' 0 (by rw[h1];rfl);simp at hn;omega
        |ownNil l a hl hk'=>exact⟨[],hk,empty a 0⟩
        |ownArr l b sz' len cap ccs ty hl hk'=>rw[h1]at hk';cases hk'
      · cases hx with
        |ownOther l n ao co hl hk' _=>have:=hk' es.length (by rw[h1];rfl);omega
        |ownNil l a hl hk'=>rw[h1]at hk';cases hk'
        |ownArr l b' sz' len cap ccs' ty' hl' hk' hh hcap hlen=>
          rw[h1]at hk';obtain⟨rfl,rfl,_⟩:=MS.arr.inj hk'
          refine⟨es,hk,by simp[Builtin.lenOf,hn],fun sz' hs'=> ?_⟩
          by_cases hes:es=[]
          · subst hes
            have:=(empty (some ⟨b,0,none⟩) cap).2 sz' hs'
            simp at hn;subst hn;exact this
          · have:sz'=sz:=by
              cases es with
              |nil=>exact absurd rfl hes
              |cons e r=>rw[←hsz e (by simp),←hs' e (by simp)]
            subst this
            simp only[Builtin.firstCells]
            exact ZEq hsz fun i e k x hi hk=>by
              obtain⟨y,hy,hc⟩:=h4 i e k x hi hk
              exact⟨y,by rw[ZA3 h2,Nat.zero_add];exact hy,hc⟩
    · exact hk.elim
  · exact hk.elim
theorem ZEz (newLen:Nat):∀r c,Builtin.growBy newLen r c≤c∨Builtin.growBy newLen r c≤2*newLen+192
  |0,c=>.inl (Nat.le_refl _)
  |r+1,c=>by
    unfold Builtin.growBy
    split
    · exact .inl (Nat.le_refl _)
    · rcases ZEz newLen r (c+(c+768)/4)with h|h
      · right;omega
      · exact .inr h
theorem ZLW {need cap:Nat}(h:cap<need):Builtin.nextslicecap need cap≤2*need+1024:=by
  unfold Builtin.nextslicecap
  split
  · omega
  · split
    · omega
    · rcases ZEz need 4 cap with h|h<;>omega
def Map.setS (m:Map)(l:Nat)(s:MS):Map:=⟨fun j=>if j=l then s else m.f j,m.n,m.av⟩
theorem Map.setS_same (m:Map)(l:Nat)(s:MS):(m.setS l s).f l=s:=by simp[Map.setS]
theorem Map.setS_other (m:Map)(l:Nat)(s:MS){j:Nat}(h:j≠l):(m.setS l s).f j=m.f j:=by simp[Map.setS,h]
theorem ZDJ (z:Array Value)(n:Nat):(Builtin.zeroCells z n).size=n*z.size:=by simp[Builtin.zeroCells]
theorem ZDC {t t2 : TypeId} {e e2 : TypeId} {ie : TypeInfo} {sz : Nat} (g1 : P.underlying t = some (.slice e)) (g2 : P.info? e = some ie) (g3 : ie.size = sz)
    (gt2:P.underlying t2=some (.slice e2)) (hz:(ZAP ie).length=sz) (hz0:sz≠0) (hb0:ie.bytes≠0)
    {base:Option Addr} {cap:Nat} {es new:List (List AV)} {u:Value} (ty:TypeId)
    (hcap:cap<es.length+new.length)
    (hold:∃us:Array Value,(Builtin.firstCells sz es.length (.slice base es.length cap)).run P w.drew=.ok us w.drew∧us.size=es.length*sz∧
      ∀(i:Nat) (e:List AV) (k:Nat) (x:AV),es[i]? =some e→e[k]? =some x→∃y:Value,us[i*sz+k]? =some y∧Conc B (Av m) w m x y)
    (hlen:(Builtin.lenOf u).run P w=.ok new.length w)
    (hnw:∃us:Array Value,(Builtin.firstCells sz new.length u).run P w.drew=.ok us w.drew∧us.size=new.length*sz∧
      ∀(i:Nat) (e:List AV) (k:Nat) (x:AV),new[i]? =some e→e[k]? =some x→∃y:Value,us[i*sz+k]? =some y∧Conc B (Av m) w m x y)
    (hbytes:(2*(es.length+new.length)+1024)*ie.bytes≤281474976710656):
    ∃(us:Array Value) (c:Nat),(Builtin.append_ #[t,t2] ty #[.slice base es.length cap,u]).run P w=.ok (.slice (some ⟨w.heap.size,0,none⟩) (es.length+new.length) c) (w.drew.alloc (.cells us e))∧
      es.length+new.length≤c∧c*sz≤us.size∧
      ∀(i:Nat) (e:List AV) (k:Nat) (x:AV),(es++new)[i]? =some e→e[k]? =some x→∃y:Value,us[i*sz+k]? =some y∧Conc B (Av m) w m x y:=by
  obtain⟨us1,r1,s1,c1⟩:=hold
  obtain⟨us2,r2,s2,c2⟩:=hnw
  have hsz:∀w:World,(sizeOf e).run P w=.ok sz w:=fun w=>by simp[sizeOf,typeInfo,g2,g3]
  have hzne:ZAP ie≠[]:=by intro hz';rw[hz']at hz;exact hz0 hz.symm
  obtain⟨zv,hz1,hz2⟩:=ZBs (P:=P) (w:=w.drew) g2 hzne
  have hzs:zv.cells.size=sz:=by rw[←hz,←hz2];simp
  generalize hc:(Question.appendCap (es.length+new.length) cap e).cut (w.tape w.drawn (Question.appendCap (es.length+new.length) cap e))=c
  have hcge:es.length+new.length≤c:=by rw[←hc];simp[Question.cut]
  refine⟨us1++us2++Builtin.zeroCells zv.cells (c- (es.length+new.length)),c,?_,hcge,?_,fun i e' k x hi hk=> ?_⟩
  · have n1:¬(es.length+new.length≤cap):=by omega
    have n2:¬(281474976710656<Builtin.nextslicecap (es.length+new.length) cap*ie.bytes):=by
      have h1:Builtin.nextslicecap (es.length+new.length) cap*ie.bytes≤(2*(es.length+new.length)+1024)*ie.bytes:=Nat.mul_le_mul_right _ (ZLW hcap)
      omega
    simp[Builtin.append_,ZF g1,ZF gt2,hsz,hlen,n1,typeInfo,g2,n2,Question.forced,hc,r1,r2,hz1,newRow]
    exact fun _ h0=>absurd h0 hb0
  · simp only[Array.size_append,ZDJ,hzs,s1,s2]
    have:c*sz=(es.length+new.length)*sz+(c- (es.length+new.length))*sz:=by rw[←Nat.add_mul];congr 1;omega
    rw[this,Nat.add_mul];omega
  · by_cases hi':i<es.length
    · rw[List.getElem?_append_left hi']at hi
      obtain⟨y,hy,hxy⟩:=c1 i e' k x hi hk
      have:=(Array.getElem?_eq_some_iff.1 hy).1
      exact⟨y,by rw[Array.append_assoc,Array.getElem?_append_left this];exact hy,hxy⟩
    · rw[List.getElem?_append_right (by omega)]at hi
      obtain⟨y,hy,hxy⟩:=c2 _ e' k x hi hk
      have hlt:=(Array.getElem?_eq_some_iff.1 hy).1
      have hpos:i*sz+k=us1.size+((i-es.length)*sz+k):=by
        rw[s1,Nat.sub_mul]
        have:es.length*sz≤i*sz:=Nat.mul_le_mul_right sz (by omega)
        omega
      refine⟨y,?_,hxy⟩
      rw[hpos,Array.append_assoc,Array.getElem?_append_right (by omega),Nat.add_sub_cancel_left,Array.getElem?_append_left hlt]
      exact hy
theorem Fr.setNew {l : Nat} {s : MS} (hle : (m.f l).le s) {w' : World} (hsize : w.heap.size ≤ w'.heap.size) (hk : ∀ b, b < w.heap.size → w'.heap[b]? = w.heap[b]?)
    (hs:∀b,s.has b→w.heap.size≤b) (h1:w'.tape=w.tape) (h2:w'.os=w.os) (h3:w'.output=w.output):Fr m w (m.setS l s) w' where
  size:=hsize
  keep b hb _:=hk b hb
  phys b ccs ty _ _ hh:=⟨ccs,by rw[hk b (Array.getElem?_eq_some_iff.1 hh).1,hh],rfl⟩
  fresh b:=by
    rintro⟨j,hj⟩
    by_cases e:j=l
    · subst e;rw[Map.setS_same]at hj;exact .inr (hs b hj)
    · rw[Map.setS_other m l s e]at hj;exact .inl ⟨j,hj⟩
  ids j _:=by
    by_cases e:j=l
    · subst e;rw[Map.setS_same];exact hle
    · rw[Map.setS_other m l s e];exact .inl rfl
  n:=Nat.le_refl _
  av:=rfl
  tape:=h1
  os:=h2
  output:=h3
theorem ZET (h : Sim B m σ w) {t t2 ty : TypeId} {s x : AV} {K : AV → ZA → Prop} (hk : ZBr P B t t2 σ s x K) {u v : Value}
    (hs:Conc B (Av m) w m s u) (hx:Conc B (Av m) w m x v):Good B m w K ((Builtin.append_ #[t,t2] ty #[u,v]).run P w):=by
  unfold ZBr at hk
  split at hk
  · next sz bytes zs size z' e2 hti gt2=>
    obtain⟨hz,hz0,hb0,hk⟩:=hk
    obtain⟨e,ie,g1,g2,g3,rfl,rfl⟩:=ZBO hti
    have hsz:∀w:World,(sizeOf e).run P w=.ok sz w:=fun w=>by simp[sizeOf,typeInfo,g2,g3]
    obtain⟨new,⟨hnew,hok,hk⟩,hlen,hcells⟩:=ZAd (P:=P) h hk hx
    obtain⟨us2,r2,s2,c2⟩:=hcells sz hnew
    split at hk
    · -- nil
      obtain⟨hB,hbytes,hK⟩:=hk
      obtain rfl:=Conc.lit_inv hs
      by_cases h0:new.length=0
      · have hn0:new=[]:=List.eq_nil_of_length_eq_zero h0
        subst hn0
        have hfr:Fr m w (m.push .nil) w:=Fr.push h _ (Nat.le_refl _) (fun _ _=>rfl) (fun b hb=>by simp[MS.has]at hb) rfl rfl rfl
        refine⟨.slice none 0 0,_,_,_,w,?_,hK,h.push .nil (.elems sz []) hfr (fun _ _=>rfl) (fun b hb=>by simp[MS.has]at hb) ⟨by simp,by simp,.inl ⟨rfl,rfl⟩⟩,?_,hfr⟩
        · have r2':(Builtin.firstCells sz 0 v).run P w=.ok us2 w:=r2 w rfl
          simp only[List.length_nil]at hlen
          simp[Builtin.append_,ZF g1,ZF gt2,hsz,hlen,r2']
        · rw[←h.n];exact .ownNil m.n none (by simp[Map.push]) (Map.push_new _ _)
      · obtain⟨us,c,hrun,hc1,hc2,hc3⟩:=ZDC (base:=none) (cap:=0) (es:=[]) (new:=new) (u:=v) (m:=m) (B:=B) g1 g2 g3 gt2 hz hz0 hb0 ty (by simp;omega)
          ⟨#[],by simp[Builtin.firstCells],by simp,fun i e k x hi=>by simp at hi⟩ hlen ⟨us2,r2 w.drew rfl,s2,c2⟩ (by simpa using hbytes)
        have hcap:new.length≤c:=by simpa using hc1
        obtain⟨hf2,hs2⟩:=h.elems sz new us e (w':=w.drew) (.inr rfl) hnew (by simpa using hB) (Nat.le_trans (Nat.mul_le_mul_right sz hcap) hc2)
          (fun i e k x hi hk=>hc3 i e k x (by simpa using hi) hk)
        refine⟨_,_,_,_,_,hrun,hK,hs2,?_,hf2⟩
        rw[←h.n]
        have:=Conc.ownArr (B:=B) (W:=Av (m.push (.arr w.heap.size sz new.length))) (w:=w.drew.alloc (.cells us e)) (m:=m.push (.arr w.heap.size sz new.length)) m.n w.heap.size sz new.length c us e
          (by simp[Map.push]) (Map.push_new _ _) (ZAt w.drew _) hc2 hcap (fun h=>absurd h h0)
        simpa using this
    · -- own
      next l n hk=>
      split at hk
      · next sz' es he=>
        obtain⟨hn,rfl,hB,hbytes,hK⟩:=hk
        obtain⟨hsz1,hB1,hcase⟩:=h.elts he
        have hold:=ZAd (P:=P) h (x:=.own l n) (K:=fun es'=>es'=es) (by simp[ZCb,he,hn]) hs
        obtain⟨es',rfl,hl1,hc1⟩:=hold
        obtain⟨us1,r1,s1,c1⟩:=hc1 sz' hsz1
        obtain⟨base,cap,rfl⟩:∃base cap,u=.slice base n cap:=by
          rcases hcase with⟨h1,rfl⟩|⟨b,ccs,ty',h1,h2,h3,h4⟩
          · cases hs with
            |ownOther l n ao co hl hk' _=>have:=hk' 0 (by rw[h1];rfl);simp at hn;omega
            |ownNil l a hl hk'=>exact⟨a,0,rfl⟩
            |ownArr l b sz' len cap ccs ty hl hk'=>rw[h1]at hk';cases hk'
          · cases hs with
            |ownOther l n ao co hl hk' _=>have:=hk' es'.length (by rw[h1];rfl);omega
            |ownNil l a hl hk'=>rw[h1]at hk';cases hk'
            |ownArr l b sz' len cap ccs ty hl hk'=>exact⟨_,_,rfl⟩
        subst hn
        by_cases hfit:es'.length+new.length≤cap
        · -- there is room
          rcases hcase with⟨h1,rfl⟩|⟨b,ccs,ty',h1,h2,h3,h4⟩
          · have hcap0:cap=0:=by
              cases hs with
              |ownOther l n ao co hl hk' _=>have:=hk' 0 (by rw[h1];rfl);simp at this
              |ownNil l a hl hk'=>rfl
              |ownArr l b sz' len cap ccs ty hl hk'=>rw[h1]at hk';cases hk'
            have hn0:new=[]:=List.eq_nil_of_length_eq_zero (by simp at hfit;omega)
            subst hn0 hcap0
            have hset:σ.set l (.elems sz' ([]++[]))=σ:=by
              apply List.ext_getElem?
              intro j
              by_cases hj:j=l
              · subst hj;rw[ZM he,he];rfl
              · rw[List.getElem?_set_ne (Ne.symm hj)]
            rw[hset]at hK
            refine⟨.slice base 0 0,_,_,m,w,?_,hK,h,by simpa using hs,Fr.refl m w⟩
            have r2':(Builtin.firstCells sz' 0 v).run P w=.ok us2 w:=r2 w rfl
            have hus2:us2=#[]:=by apply Array.eq_empty_of_size_eq_zero;simpa using s2
            subst hus2
            simp only[List.length_nil]at hlen
            simp[Builtin.append_,ZF g1,ZF gt2,hsz,hlen,r2']
            cases base<;>simp[storeCells]
          · obtain⟨hu,hcs,hle,hz0'⟩:base=some ⟨b,0,none⟩∧cap*sz'≤ccs.size∧es'.length≤cap∧(es'.length=0→cap=0):=by
              generalize hnn:es'.length=nn at hs
              cases hs with
              |ownOther l n ao co hl hk' _=>have:=hk' es'.length (by rw[h1];rfl);omega
              |ownNil l a hl hk'=>rw[h1]at hk';cases hk'
              |ownArr l b' sz'' len cap ccs' ty hl hk' hh hcap hlen=>
                rw[h1]at hk';obtain⟨rfl,rfl,_⟩:=MS.arr.inj hk'
                rw[h2]at hh;obtain⟨rfl,rfl,_⟩:=Obj.cells.inj (Option.some.inj hh)
                exact⟨rfl,hcap,hlen,by assumption⟩
            subst hu
            have hblk:(m.f l).has b:=by rw[h1];rfl
            have hroom:es'.length*sz'+new.length*sz'≤ccs.size:=by
              have:(es'.length+new.length)*sz'≤cap*sz':=Nat.mul_le_mul_right sz' hfit
              rw[Nat.add_mul]at this;omega
            have hl2:us2.toList.length=new.length*sz':=by simp[s2]
            have hone:∀v,v∈us2.toList→v.oneCell'=true:=by
              intro y hy
              obtain⟨p,hp⟩:=List.getElem?_of_mem hy
              have hplt:p<new.length*sz':=by rw[←hl2];exact(List.getElem?_eq_some_iff.1 hp).1
              have hs0:0<sz':=by omega
              have hi:p/sz'<new.length:=by rw[Nat.div_lt_iff_lt_mul hs0];exact hplt
              have hk:p%sz'<new[p/sz'].length:=by rw[hnew _ (List.getElem_mem hi)];exact Nat.mod_lt _ hs0
              obtain⟨y',hy',hc'⟩:=c2 (p/sz') _ (p%sz') _ (List.getElem?_eq_getElem hi) (List.getElem?_eq_getElem hk)
              have hpe:p/sz'*sz'+p%sz'=p:=by have:=Nat.div_add_mod p sz';rw[Nat.mul_comm]at this;omega
              rw[hpe]at hy'
              have:us2[p]? =some y:=by simpa using hp
              rw[this]at hy';obtain rfl:=Option.some.inj hy'
              exact ZFm h hc' (ZCT (hok _ (List.getElem_mem hi)) (List.getElem?_eq_getElem hk))
            have hf:Fr m w (m.setS l (.arr b sz' (es'.length+new.length))) (Zs w b (wrArr ccs (es'.length*sz') us2.toList) ty'):=by
              refine Fr.put hblk h2 (Zi ..) _ (fun b' hb'=> ?_) (fun j hj=> ?_) (Nat.le_refl _) rfl
              · obtain⟨j,hj⟩:=hb'
                by_cases e:j=l
                · subst e;rw[Map.setS_same]at hj;simp[MS.has]at hj;subst hj;exact⟨j,hblk⟩
                · rw[Map.setS_other m l _ e]at hj;exact⟨j,hj⟩
              · by_cases e:j=l
                · subst e;rw[Map.setS_same,h1]
                  by_cases h0:new.length=0
                  · rw[h0,Nat.add_zero];exact .inl rfl
                  · exact .inr (.inr (.inl ⟨_,_,rfl,rfl,by omega⟩))
                · rw[Map.setS_other m l _ e];exact .inl rfl
            have hphys:(Zs w b (wrArr ccs (es'.length*sz') us2.toList) ty').heap[b]? =some (.cells (wrArr ccs (es'.length*sz') us2.toList) ty' (0,0)):=ZAW h2
            refine⟨.slice (some ⟨b,0,none⟩) (es'.length+new.length) cap,_,_,m.setS l (.arr b sz' (es'.length+new.length)),_,?_,hK,?_,?_,hf⟩
            · have:=ZAi (P:=P) b ty' (es'.length*sz') us2.toList w ccs 0 h2 hone (by rw[hl2];omega)
              simp[Builtin.append_,ZF g1,ZF gt2,hsz,hlen,hfit,r2 w rfl,ZBX,this]
            · refine h.upd hf l (by simp[Map.setS,h.n]) (fun j hj=>⟨by rw[List.getElem?_set_ne (Ne.symm hj)],Map.setS_other m l _ hj⟩) (fun j b' hj hb'=> ?_) ?_ ?_
              · exact ZAG fun e=>hj (h.inj j l b' hb' (e▸hblk))
              · rw[ZM he,Map.setS_same]
                refine⟨fun e he=> ?_,by simpa using hB,.inr ⟨b,_,ZMP ty',by simp,hphys,?_,fun i e k x hi hk=> ?_⟩⟩
                · rcases List.mem_append.1 he with he|he
                  · exact hsz1 e he
                  · exact hnew e he
                · rw[Zi,List.length_append,Nat.add_mul];exact hroom
                · rw[ZAl _ _ _ _ (by rw[hl2];exact hroom),hl2]
                  by_cases hi':i<es'.length
                  · rw[List.getElem?_append_left hi']at hi
                    have hk':k<sz':=by rw[←hsz1 e (List.mem_of_getElem? hi)];exact(List.getElem?_eq_some_iff.1 hk).1
                    have:(i+1)*sz'≤es'.length*sz':=Nat.mul_le_mul_right sz' hi'
                    rw[Nat.add_mul,Nat.one_mul]at this
                    rw[if_neg (by omega)]
                    obtain⟨y,hy,hc⟩:=h4 i e k x hi hk
                    exact⟨y,hy,hc.mono hf⟩
                  · rw[List.getElem?_append_right (by omega)]at hi
                    have hk':k<sz':=by rw[←hnew e (List.mem_of_getElem? hi)];exact(List.getElem?_eq_some_iff.1 hk).1
                    obtain⟨y,hy,hc⟩:=c2 _ e k x hi hk
                    have hlt:=(Array.getElem?_eq_some_iff.1 hy).1
                    have hpos:i*sz'+k=es'.length*sz'+((i-es'.length)*sz'+k):=by
                      rw[Nat.sub_mul]
                      have:es'.length*sz'≤i*sz':=Nat.mul_le_mul_right sz' (by omega)
                      omega
                    rw[if_pos (by omega),hpos,Nat.add_sub_cancel_left]
                    exact⟨y,by simpa using hy,hc.mono hf⟩
              · intro j b' hj hb' hb''
                rw[Map.setS_same]at hb'';simp[MS.has]at hb'';subst hb''
                exact hj (h.inj j l _ hb' hblk)
            · exact .ownArr l b sz' _ cap _ ty' (by have:=(List.getElem?_eq_some_iff.1 he).1;simp[Map.setS,h.n];exact this) (Map.setS_same _ _ _) hphys (by rw[Zi];exact hcs) hfit (fun h=>hz0' (by omega))
        · -- it grows
          obtain⟨us,c,hrun,hc1,hc2,hc3⟩:=ZDC (base:=base) (cap:=cap) (es:=es') (new:=new) (u:=v) (m:=m) (B:=B) g1 g2 g3 gt2 hz hz0 hb0 ty (by omega)
            ⟨us1,r1 w.drew rfl,s1,c1⟩ hlen ⟨us2,r2 w.drew rfl,s2,c2⟩ hbytes
          have hl:l<m.n:=by rw[h.n];exact(List.getElem?_eq_some_iff.1 he).1
          have hnpos:0<new.length:=by
            have:es'.length≤cap:=by
              rcases hcase with⟨h1,rfl⟩|⟨b,ccs,ty',h1,h2,h3,h4⟩
              · simp
              · generalize hnn:es'.length=nn at hs
                cases hs with
                |ownOther l n ao co hl hk' _=>have:=hk' es'.length (by rw[h1];rfl);omega
                |ownNil l a hl hk'=>rw[h1]at hk';cases hk'
                |ownArr l b sz' len cap ccs ty hl hk' hh hcap hlen=>exact hlen
            omega
          have hle:(m.f l).le (.arr w.heap.size sz' (es'.length+new.length)):=by
            rcases hcase with⟨h1,rfl⟩|⟨b,ccs,ty',h1,h2,h3,h4⟩
            · rw[h1];exact .inr (.inr (.inl ⟨0,_,rfl,rfl,by simp;exact hnpos⟩))
            · rw[h1];exact .inr (.inr (.inl ⟨_,_,rfl,rfl,by omega⟩))
          have hk':∀b,b<w.heap.size→(w.drew.alloc (.cells us e)).heap[b]? =w.heap[b]? :=fun b hb=>ZCA w.drew _ hb
          have hf:Fr m w (m.setS l (.arr w.heap.size sz' (es'.length+new.length))) (w.drew.alloc (.cells us e)):=
            Fr.setNew hle (by simp) hk' (fun b hb=>by simp[MS.has]at hb;omega) rfl rfl rfl
          have hnewb:(w.drew.alloc (.cells us e)).heap[w.heap.size]? =some (.cells us e (0,0)):=ZAt w.drew _
          refine⟨_,_,_,m.setS l (.arr w.heap.size sz' (es'.length+new.length)),_,hrun,hK,?_,?_,hf⟩
          · refine h.upd hf l (by simp[Map.setS,h.n]) (fun j hj=>⟨by rw[List.getElem?_set_ne (Ne.symm hj)],Map.setS_other m l _ hj⟩) (fun j b' hj hb'=>hk' b' (h.lt_of_blk hb')) ?_ ?_
            · rw[ZM he,Map.setS_same]
              refine⟨fun e he=> ?_,by simpa using hB,.inr ⟨w.heap.size,us,ZMP e,by simp,hnewb,?_,fun i e k x hi hk=> ?_⟩⟩
              · rcases List.mem_append.1 he with he|he
                · exact hsz1 e he
                · exact hnew e he
              · rw[List.length_append];exact Nat.le_trans (Nat.mul_le_mul_right sz' hc1) hc2
              · obtain⟨y,hy,hc⟩:=hc3 i e k x hi hk
                exact⟨y,hy,hc.mono hf⟩
            · intro j b' hj hb' hb''
              rw[Map.setS_same]at hb'';simp[MS.has]at hb'';subst hb''
              exact absurd (h.lt_of_blk hb') (Nat.lt_irrefl _)
          · exact .ownArr l w.heap.size sz' _ c us e (by simpa[Map.setS]using hl) (Map.setS_same _ _ _) hnewb hc2 hc1 (fun h=>by omega)
      · exact hk.elim
    · exact hk.elim
  · exact hk.elim
end
end Go.Vl
