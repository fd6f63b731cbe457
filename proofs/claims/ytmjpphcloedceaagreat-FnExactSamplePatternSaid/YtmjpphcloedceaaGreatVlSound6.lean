import Derived.Test.YtmjpphcloedceaaGreatVlSound4
set_option linter.all false
open Nat renaming mul_le_mul_right->zA,add_mul->zB,le_refl->zC,le_trans->zD,mul_comm->zE,add_sub_cancel_left->zF,div_lt_iff_lt_mul->zG,div_add_mod->zH,sub_zero->zI,add_zero->zJ,sub_mul->zK,one_mul->zL,mod_lt->zM
open List renaming getElem?_eq_some_iff->zN,getElem?_eq_getElem->zO,mem_of_getElem?->zP,getElem?_set_ne->zQ,getElem_mem->zR,eq_nil_of_length_eq_zero->zS,getElem?_append_right->zT,getElem?_append_left->zU,length_append->zV,getElem?_map->zW,mem_append->zX,length_nil->zY,getD->zZ
open Option.some renaming inj->yA
open Array renaming getElem?_eq_some_iff->yB,getElem?_append_left->yC,append_assoc->yD,getD->yE
open Option renaming map_eq_some_iff->yF
namespace Go.Vl
open Go
open Go.Builtin renaming firstCells->yG,append_->yH,lenOf->yI,nextslicecap->yJ,zeroCells->yK,growBy->yL
section
variable {P : Program} {B : Nat} {w : World} {m : Map} {σ : ZE}
theorem ZJv {w w':World}(h:w'.heap=w.heap)(a:Addr):w'.cell? a=w.cell? a:=by simp[World.cell?,h]
variable {es:List (List AV)}
theorem ZFQ {b off sz:Nat}(hsz : ∀ e, e ∈ es -> e.length = sz)(hc:∀(i:Nat) (e:List AV) (k:Nat) (x:AV),es[i]? =some e->e[k]? =some x->∃y:Value,w.cell? ⟨b,off+i*sz+k,none⟩=some y/\Conc B (Av m) w m x y):
    ∃us:Array Value,(∀w',w'.heap=w.heap->(loadCells ⟨b,off,none⟩ (es.length*sz)).run P w'=.ok us w')/\us.size=es.length*sz/\
      ∀(i:Nat) (e:List AV) (k:Nat) (x:AV),es[i]? =some e->e[k]? =some x->∃y:Value,us[i*sz+k]? =some y/\Conc B (Av m) w m x y:=by
  have key:∀j,∃y:Value,j<es.length*sz->w.cell? ⟨b,off+j,none⟩=some y/\∀(e:List AV) (x:AV),es[j/sz]? =some e->e[j%sz]? =some x->Conc B (Av m) w m x y:=by
    intro j
    by_cases hj:j<es.length*sz
    · have hs0 : 0 < sz := by rcases Nat.eq_zero_or_pos sz with h | h; · subst h; simp at hj
                              exact h
      have hi:j/sz<es.length:=by rw[zG hs0];exact hj
      have he:es[j/sz]? =some es[j/sz]:=by simp[hi]
      have hk:j%sz<es[j/sz].length:=by rw[hsz _ (zR hi)];exact zM _ hs0
      obtain⟨y,h1,h2⟩:=hc (j/sz) es[j/sz] (j%sz) es[j/sz][j%sz] he (by simp[hk])
      refine⟨y,fun _=>⟨?_,fun e x he' hx'=> ?_⟩⟩
      · rw[←h1];congr 2;have:=zH j sz;rw[zE]at this;omega
      · rw[he]at he';obtain rfl:=yA he'
        rw[zO hk]at hx';obtain rfl:=yA hx'
        exact h2
    · exact⟨undef,fun h=>absurd h hj⟩
  obtain⟨f,hf⟩:=Classical.axiomOfChoice key
  refine⟨_,fun w' hw'=>run_loadCells w' _ (es.length*sz) f (fun j hj=>by rw[ZBw,ZJv hw'];exact(hf j hj).1),by simp,fun i e k x hi hk=> ?_⟩
  have hi':=(zN.1 hi).1
  have hk':k<sz:=by rw[←hsz e (zP hi)];exact(zN.1 hk).1
  have hb:i*sz+k<es.length*sz:=by
    have:(i+1)*sz<=es.length*sz:=zA sz hi'
    rw[zB,zL]at this;omega
  have hd:(i*sz+k)/sz=i:=by
    rw[zE,Nat.mul_add_div (by omega),Nat.div_eq_of_lt hk',zJ]
  have hm:(i*sz+k)%sz=k:=by rw[zE,Nat.mul_add_mod];exact Nat.mod_eq_of_lt hk'
  exact⟨f (i*sz+k),by simp[hb],(hf _ hb).2 e x (by rw[hd];exact hi) (by rw[hm];exact hk)⟩
variable {u:Value}
theorem ZAt (h : Sim B m σ w){x:AV}{K:List (List AV) -> Prop}(hk : ZC0 σ x K)(hx : Conc B (Av m) w m x u) :
    ∃es,K es/\(yI u).run P w=.ok es.length w/\∀sz,(∀e,e∈es->e.length=sz)->
      ∃us:Array Value,(∀w',w'.heap=w.heap->(yG sz es.length u).run P w'=.ok us w')/\us.size=es.length*sz/\
      ∀(i:Nat) (e:List AV) (k:Nat) (x:AV),es[i]? =some e->e[k]? =some x->∃y:Value,us[i*sz+k]? =some y/\Conc B (Av m) w m x y:=by
  have empty : ∀ (a : Option Addr) (cap : Nat), (yI (.slice a 0 cap)).run P w = .ok ([] : List (List AV)).length w /\ ∀ sz, (∀ e, e ∈ ([] : List (List AV)) -> e.length = sz) ->
      ∃us:Array Value,(∀w',w'.heap=w.heap->(yG sz ([]:List (List AV)).length (.slice a 0 cap)).run P w'=.ok us w')/\us.size=([]:List (List AV)).length*sz/\
      ∀(i:Nat) (e:List AV) (k:Nat) (x:AV),([]:List (List AV))[i]? =some e->e[k]? =some x->∃y:Value,us[i*sz+k]? =some y/\Conc B (Av m) w m x y:=by
    intro a cap
    refine⟨by simp[yI],fun sz _=>⟨#[],fun w' _=> ?_,by simp,fun i e k x hi=>by simp at hi⟩⟩
    cases a<;>simp[yG,loadCells,loadCellsFrom]
  unfold ZC0 at hk
  split at hk
  · next es=>
    cases hx with
    |arrNil a cap=>exact⟨[],hk,empty a cap⟩
    |arr es b off sz cap ys hB hs hW hb hcap hc hx=>
      refine⟨es,hk,by simp[yI],fun sz' hs'=> ?_⟩
      by_cases he:es=[]
      · subst he
        have:=(empty (some ⟨b,off,none⟩) cap).2 sz' hs'
        exact this
      · have:sz'=sz:=by
          cases es with
          |nil=>exact absurd rfl he
          |cons e r=>rw[←hs e (by simp),←hs' e (by simp)]
        subst this
        simp only[yG]
        exact ZFQ hs fun i e k x hi hk=>⟨_,hc i e k x hi hk,(hx i e k x hi hk).shift m⟩
  · obtain rfl:=Conc.lit_inv hx
    exact⟨[],hk,empty none 0⟩
  · obtain rfl:=Conc.lit_inv hx
    exact⟨[],hk,empty _ _⟩
  · next l k=>
    split at hk
    · next sz es he=>
      obtain⟨hn,hk⟩:=hk
      obtain⟨hsz,hB,hcase⟩:=h.elts he
      rcases hcase with⟨h1,rfl⟩|⟨b,ccs,ty,h1,h2,h3,h4⟩
      · cases hx with
        |ownOther l n ao co hl hk' _=>have:=hk' 0 (by rw[h1];rfl);simp at hn;omega
        |ownNil l a hl hk'=>exact⟨[],hk,empty a 0⟩
        |ownArr l b sz' len cap ccs ty hl hk'=>rw[h1]at hk';cases hk'
      · cases hx with
        |ownOther l n ao co hl hk' _=>have:=hk' es.length (by rw[h1];rfl);omega
        |ownNil l a hl hk'=>rw[h1]at hk';cases hk'
        |ownArr l b' sz' len cap ccs' ty' hl' hk' hh hcap hlen=>
          rw[h1]at hk';obtain⟨rfl,rfl,_⟩:=MS.arr.inj hk'
          refine⟨es,hk,by simp[yI,hn],fun sz' hs'=> ?_⟩
          by_cases hes:es=[]
          · subst hes
            have:=(empty (some ⟨b,0,none⟩) cap).2 sz' hs'
            simp at hn;subst hn;exact this
          · have:sz'=sz:=by
              cases es with
              |nil=>exact absurd rfl hes
              |cons e r=>rw[←hsz e (by simp),←hs' e (by simp)]
            subst this
            simp only[yG]
            exact ZFQ hsz fun i e k x hi hk=>by
              obtain⟨y,hy,hc⟩:=h4 i e k x hi hk
              exact⟨y,by rw[ZBL h2,Nat.zero_add];exact hy,hc⟩
    · exact hk.elim
  · exact hk.elim
theorem ZFa (newLen:Nat):∀r c,yL newLen r c<=c∨yL newLen r c<=2*newLen+192
  |0,c=>.inl (zC _)
  |r+1,c=>by
    unfold yL
    split
    · exact .inl (zC _)
    · rcases ZFa newLen r (c+(c+768)/4)with h|h
      · right;omega
      · exact .inr h
theorem ZMM {need cap:Nat}(h:cap<need):yJ need cap<=2*need+1024:=by
  unfold yJ
  split
  · omega
  · split
    · omega
    · rcases ZFa need 4 cap with h|h<;>omega
def Map.setS (m:Map)(l:Nat)(s:MS):Map:=⟨fun j=>if j=l then s else m.f j,m.n,m.av⟩
theorem Map.setS_same (m:Map)(l:Nat)(s:MS):(m.setS l s).f l=s:=by simp[Map.setS]
theorem Map.setS_other (m:Map)(l:Nat)(s:MS){j:Nat}(h:j≠l):(m.setS l s).f j=m.f j:=by simp[Map.setS,h]
theorem ZDu (z:Array Value)(n:Nat):(yK z n).size=n*z.size:=by simp[yK]
theorem ZDm {t t2:TypeId}{e e2:TypeId}{ie:TypeInfo}{sz:Nat}(g1 : P.underlying t = some (.slice e))(g2 : P.info? e = some ie)(g3 : ie.size = sz)(gt2:P.underlying t2=some (.slice e2))(hz:(ZAa ie).length=sz)(hz0:sz≠0)(hb0:ie.bytes≠0){base:Option Addr}{cap:Nat}{new:List (List AV)}(ty:TypeId)(hcap:cap<es.length+new.length)(hold:∃us:Array Value,(yG sz es.length (.slice base es.length cap)).run P w.drew=.ok us w.drew/\us.size=es.length*sz/\
      ∀(i:Nat) (e:List AV) (k:Nat) (x:AV),es[i]? =some e->e[k]? =some x->∃y:Value,us[i*sz+k]? =some y/\Conc B (Av m) w m x y)(hlen:(yI u).run P w=.ok new.length w)(hnw:∃us:Array Value,(yG sz new.length u).run P w.drew=.ok us w.drew/\us.size=new.length*sz/\
      ∀(i:Nat) (e:List AV) (k:Nat) (x:AV),new[i]? =some e->e[k]? =some x->∃y:Value,us[i*sz+k]? =some y/\Conc B (Av m) w m x y)(hbytes:(2*(es.length+new.length)+1024)*ie.bytes<=281474976710656):
    ∃(us:Array Value) (c:Nat),(yH #[t,t2] ty #[.slice base es.length cap,u]).run P w=.ok (.slice (some ⟨w.heap.size,0,none⟩) (es.length+new.length) c) (w.drew.alloc (.cells us e))/\
      es.length+new.length<=c/\c*sz<=us.size/\
      ∀(i:Nat) (e:List AV) (k:Nat) (x:AV),(es++new)[i]? =some e->e[k]? =some x->∃y:Value,us[i*sz+k]? =some y/\Conc B (Av m) w m x y:=by
  obtain⟨us1,r1,s1,c1⟩:=hold
  obtain⟨us2,r2,s2,c2⟩:=hnw
  have hsz:∀w:World,(sizeOf e).run P w=.ok sz w:=fun w=>by simp[sizeOf,typeInfo,g2,g3]
  have hzne:ZAa ie≠[]:=by intro hz';rw[hz']at hz;exact hz0 hz.symm
  obtain⟨zv,hz1,hz2⟩:=ZBi (P:=P) (w:=w.drew) g2 hzne
  have hzs:zv.cells.size=sz:=by rw[←hz,←hz2];simp
  generalize hc:(Question.appendCap (es.length+new.length) cap e).cut (w.tape w.drawn (Question.appendCap (es.length+new.length) cap e))=c
  have hcge:es.length+new.length<=c:=by rw[←hc];simp[Question.cut]
  refine⟨us1++us2++yK zv.cells (c- (es.length+new.length)),c,?_,hcge,?_,fun i e' k x hi hk=> ?_⟩
  · have n1:¬(es.length+new.length<=cap):=by omega
    have n2:¬(281474976710656<yJ (es.length+new.length) cap*ie.bytes):=by
      have h1:yJ (es.length+new.length) cap*ie.bytes<=(2*(es.length+new.length)+1024)*ie.bytes:=zA _ (ZMM hcap)
      omega
    simp[yH,ZG g1,ZG gt2,hsz,hlen,n1,typeInfo,g2,n2,Question.forced,hc,r1,r2,hz1,newRow]
    exact fun _ h0=>absurd h0 hb0
  · simp only[Array.size_append,ZDu,hzs,s1,s2]
    have:c*sz=(es.length+new.length)*sz+(c- (es.length+new.length))*sz:=by rw[←zB];congr 1;omega
    rw[this,zB];omega
  · by_cases hi':i<es.length
    · rw[zU hi']at hi
      obtain⟨y,hy,hxy⟩:=c1 i e' k x hi hk
      have:=(yB.1 hy).1
      exact⟨y,by rw[yD,yC this];exact hy,hxy⟩
    · rw[zT (by omega)]at hi
      obtain⟨y,hy,hxy⟩:=c2 _ e' k x hi hk
      have hlt:=(yB.1 hy).1
      have hpos:i*sz+k=us1.size+((i-es.length)*sz+k):=by
        rw[s1,zK]
        have:es.length*sz<=i*sz:=zA sz (by omega)
        omega
      refine⟨y,?_,hxy⟩
      rw[hpos,yD,Array.getElem?_append_right (by omega),zF,yC hlt]
      exact hy
theorem Fr.setNew {l : Nat} {s : MS} (hle : (m.f l).le s) {w' : World} (hsize : w.heap.size <= w'.heap.size) (hk : ∀ b, b < w.heap.size -> w'.heap[b]? = w.heap[b]?)
    (hs:∀b,s.has b->w.heap.size<=b) (h1:w'.tape=w.tape) (h2:w'.os=w.os) (h3:w'.output=w.output):Fr m w (m.setS l s) w' where
  size:=hsize
  keep b hb _:=hk b hb
  phys b ccs ty _ _ hh:=⟨ccs,by rw[hk b (yB.1 hh).1,hh],rfl⟩
  fresh b:=by
    rintro⟨j,hj⟩
    by_cases e:j=l
    · subst e;rw[Map.setS_same]at hj;exact .inr (hs b hj)
    · rw[Map.setS_other m l s e]at hj;exact .inl ⟨j,hj⟩
  ids j _:=by
    by_cases e:j=l
    · subst e;rw[Map.setS_same];exact hle
    · rw[Map.setS_other m l s e];exact .inl rfl
  n:=zC _
  av:=rfl
  tape:=h1
  os:=h2
  output:=h3
theorem ZE2 (h : Sim B m σ w){t t2 ty:TypeId}{s x:AV}{K:AV -> ZE -> Prop}(hk : ZCC P B t t2 σ s x K){v:Value}(hs:Conc B (Av m) w m s u)(hx:Conc B (Av m) w m x v):Good B m w K ((yH #[t,t2] ty #[u,v]).run P w):=by
  unfold ZCC at hk
  split at hk
  · next sz bytes zs size z' e2 hti gt2=>
    obtain⟨hz,hz0,hb0,hk⟩:=hk
    obtain⟨e,ie,g1,g2,g3,rfl,rfl⟩:=ZBk hti
    have hsz:∀w:World,(sizeOf e).run P w=.ok sz w:=fun w=>by simp[sizeOf,typeInfo,g2,g3]
    obtain⟨new,⟨hnew,hok,hk⟩,hlen,hcells⟩:=ZAt (P:=P) h hk hx
    obtain⟨us2,r2,s2,c2⟩:=hcells sz hnew
    split at hk
    · -- nil
      obtain⟨hB,hbytes,hK⟩:=hk
      obtain rfl:=Conc.lit_inv hs
      by_cases h0:new.length=0
      · have hn0:new=[]:=zS h0
        subst hn0
        have hfr:Fr m w (m.push .nil) w:=Fr.push h _ (zC _) (fun _ _=>rfl) (fun b hb=>by simp[MS.has]at hb) rfl rfl rfl
        refine⟨.slice none 0 0,_,_,_,w,?_,hK,h.push .nil (.elems sz []) hfr (fun _ _=>rfl) (fun b hb=>by simp[MS.has]at hb) ⟨by simp,by simp,.inl ⟨rfl,rfl⟩⟩,?_,hfr⟩
        · have r2':(yG sz 0 v).run P w=.ok us2 w:=r2 w rfl
          simp only[zY]at hlen
          simp[yH,ZG g1,ZG gt2,hsz,hlen,r2']
        · rw[←h.n];exact .ownNil m.n none (by simp[Map.push]) (Map.push_new _ _)
      · obtain⟨us,c,hrun,hc1,hc2,hc3⟩:=ZDm (base:=none) (cap:=0) (es:=[]) (new:=new) (u:=v) (m:=m) (B:=B) g1 g2 g3 gt2 hz hz0 hb0 ty (by simp;omega)
          ⟨#[],by simp[yG],by simp,fun i e k x hi=>by simp at hi⟩ hlen ⟨us2,r2 w.drew rfl,s2,c2⟩ (by simpa using hbytes)
        have hcap:new.length<=c:=by simpa using hc1
        obtain⟨hf2,hs2⟩:=h.elems sz new us e (w':=w.drew) (.inr rfl) hnew (by simpa using hB) (zD (zA sz hcap) hc2)
          (fun i e k x hi hk=>hc3 i e k x (by simpa using hi) hk)
        refine⟨_,_,_,_,_,hrun,hK,hs2,?_,hf2⟩
        rw[←h.n]
        have:=Conc.ownArr (B:=B) (W:=Av (m.push (.arr w.heap.size sz new.length))) (w:=w.drew.alloc (.cells us e)) (m:=m.push (.arr w.heap.size sz new.length)) m.n w.heap.size sz new.length c us e
          (by simp[Map.push]) (Map.push_new _ _) (ZBB w.drew _) hc2 hcap (fun h=>absurd h h0)
        simpa using this
    · -- own
      next l n hk=>
      split at hk
      · next sz' es he=>
        obtain⟨hn,rfl,hB,hbytes,hK⟩:=hk
        obtain⟨hsz1,hB1,hcase⟩:=h.elts he
        have hold:=ZAt (P:=P) h (x:=.own l n) (K:=fun es'=>es'=es) (by simp[ZC0,he,hn]) hs
        obtain⟨es',rfl,hl1,hc1⟩:=hold
        obtain⟨us1,r1,s1,c1⟩:=hc1 sz' hsz1
        obtain⟨base,cap,rfl⟩:∃base cap,u=.slice base n cap:=by
          rcases hcase with⟨h1,rfl⟩|⟨b,ccs,ty',h1,h2,h3,h4⟩
          · cases hs with
            |ownOther l n ao co hl hk' _=>have:=hk' 0 (by rw[h1];rfl);simp at hn;omega
            |ownNil l a hl hk'=>exact⟨a,0,rfl⟩
            |ownArr l b sz' len cap ccs ty hl hk'=>rw[h1]at hk';cases hk'
          · cases hs with
            |ownOther l n ao co hl hk' _=>have:=hk' es'.length (by rw[h1];rfl);omega
            |ownNil l a hl hk'=>rw[h1]at hk';cases hk'
            |ownArr l b sz' len cap ccs ty hl hk'=>exact⟨_,_,rfl⟩
        subst hn
        by_cases hfit:es'.length+new.length<=cap
        · -- there is room
          rcases hcase with⟨h1,rfl⟩|⟨b,ccs,ty',h1,h2,h3,h4⟩
          · have hcap0:cap=0:=by
              cases hs with
              |ownOther l n ao co hl hk' _=>have:=hk' 0 (by rw[h1];rfl);simp at this
              |ownNil l a hl hk'=>rfl
              |ownArr l b sz' len cap ccs ty hl hk'=>rw[h1]at hk';cases hk'
            have hn0:new=[]:=zS (by simp at hfit;omega)
            subst hn0 hcap0
            have hset:σ.set l (.elems sz' ([]++[]))=σ:=by
              apply List.ext_getElem?
              intro j
              by_cases hj:j=l
              · subst hj;rw[ZR he,he];rfl
              · rw[zQ (Ne.symm hj)]
            rw[hset]at hK
            refine⟨.slice base 0 0,_,_,m,w,?_,hK,h,by simpa using hs,Fr.refl m w⟩
            have r2':(yG sz' 0 v).run P w=.ok us2 w:=r2 w rfl
            have hus2:us2=#[]:=by apply Array.eq_empty_of_size_eq_zero;simpa using s2
            subst hus2
            simp only[zY]at hlen
            simp[yH,ZG g1,ZG gt2,hsz,hlen,r2']
            cases base<;>simp[storeCells]
          · obtain⟨hu,hcs,hle,hz0'⟩:base=some ⟨b,0,none⟩/\cap*sz'<=ccs.size/\es'.length<=cap/\(es'.length=0->cap=0):=by
              generalize hnn:es'.length=nn at hs
              cases hs with
              |ownOther l n ao co hl hk' _=>have:=hk' es'.length (by rw[h1];rfl);omega
              |ownNil l a hl hk'=>rw[h1]at hk';cases hk'
              |ownArr l b' sz'' len cap ccs' ty hl hk' hh hcap hlen=>
                rw[h1]at hk';obtain⟨rfl,rfl,_⟩:=MS.arr.inj hk'
                rw[h2]at hh;obtain⟨rfl,rfl,_⟩:=Obj.cells.inj (yA hh)
                exact⟨rfl,hcap,hlen,by assumption⟩
            subst hu
            have hblk:(m.f l).has b:=by rw[h1];rfl
            have hroom:es'.length*sz'+new.length*sz'<=ccs.size:=by
              have:(es'.length+new.length)*sz'<=cap*sz':=zA sz' hfit
              rw[zB]at this;omega
            have hl2:us2.toList.length=new.length*sz':=by simp[s2]
            have hone:∀v,v∈us2.toList->v.oneCell'=true:=by
              intro y hy
              obtain⟨p,hp⟩:=List.getElem?_of_mem hy
              have hplt:p<new.length*sz':=by rw[←hl2];exact(zN.1 hp).1
              have hs0:0<sz':=by omega
              have hi:p/sz'<new.length:=by rw[zG hs0];exact hplt
              have hk:p%sz'<new[p/sz'].length:=by rw[hnew _ (zR hi)];exact zM _ hs0
              obtain⟨y',hy',hc'⟩:=c2 (p/sz') _ (p%sz') _ (zO hi) (zO hk)
              have hpe:p/sz'*sz'+p%sz'=p:=by have:=zH p sz';rw[zE]at this;omega
              rw[hpe]at hy'
              have:us2[p]? =some y:=by simpa using hp
              rw[this]at hy';obtain rfl:=yA hy'
              exact ZGU h hc' (ZCr (hok _ (zR hi)) (zO hk))
            have hf:Fr m w (m.setS l (.arr b sz' (es'.length+new.length))) (ZAI w b (wrArr ccs (es'.length*sz') us2.toList) ty'):=by
              refine Fr.put hblk h2 (Zt ..) _ (fun b' hb'=> ?_) (fun j hj=> ?_) (zC _) rfl
              · obtain⟨j,hj⟩:=hb'
                by_cases e:j=l
                · subst e;rw[Map.setS_same]at hj;simp[MS.has]at hj;subst hj;exact⟨j,hblk⟩
                · rw[Map.setS_other m l _ e]at hj;exact⟨j,hj⟩
              · by_cases e:j=l
                · subst e;rw[Map.setS_same,h1]
                  by_cases h0:new.length=0
                  · rw[h0,zJ];exact .inl rfl
                  · exact .inr (.inr (.inl ⟨_,_,rfl,rfl,by omega⟩))
                · rw[Map.setS_other m l _ e];exact .inl rfl
            have hphys:(ZAI w b (wrArr ccs (es'.length*sz') us2.toList) ty').heap[b]? =some (.cells (wrArr ccs (es'.length*sz') us2.toList) ty' (0,0)):=ZAl h2
            refine⟨.slice (some ⟨b,0,none⟩) (es'.length+new.length) cap,_,_,m.setS l (.arr b sz' (es'.length+new.length)),_,?_,hK,?_,?_,hf⟩
            · have:=ZA0 (P:=P) b ty' (es'.length*sz') us2.toList w ccs 0 h2 hone (by rw[hl2];omega)
              simp[yH,ZG g1,ZG gt2,hsz,hlen,hfit,r2 w rfl,ZBw,this]
            · refine h.upd hf l (by simp[Map.setS,h.n]) (fun j hj=>⟨by rw[zQ (Ne.symm hj)],Map.setS_other m l _ hj⟩) (fun j b' hj hb'=> ?_) ?_ ?_
              · exact ZAV fun e=>hj (h.inj j l b' hb' (e▸hblk))
              · rw[ZR he,Map.setS_same]
                refine⟨fun e he=> ?_,by simpa using hB,.inr ⟨b,_,ZOo ty',by simp,hphys,?_,fun i e k x hi hk=> ?_⟩⟩
                · rcases zX.1 he with he|he
                  · exact hsz1 e he
                  · exact hnew e he
                · rw[Zt,zV,zB];exact hroom
                · rw[ZA2 _ _ _ _ (by rw[hl2];exact hroom),hl2]
                  by_cases hi':i<es'.length
                  · rw[zU hi']at hi
                    have hk':k<sz':=by rw[←hsz1 e (zP hi)];exact(zN.1 hk).1
                    have:(i+1)*sz'<=es'.length*sz':=zA sz' hi'
                    rw[zB,zL]at this
                    rw[iN (by omega)]
                    obtain⟨y,hy,hc⟩:=h4 i e k x hi hk
                    exact⟨y,hy,hc.mono hf⟩
                  · rw[zT (by omega)]at hi
                    have hk':k<sz':=by rw[←hnew e (zP hi)];exact(zN.1 hk).1
                    obtain⟨y,hy,hc⟩:=c2 _ e k x hi hk
                    have hlt:=(yB.1 hy).1
                    have hpos:i*sz'+k=es'.length*sz'+((i-es'.length)*sz'+k):=by
                      rw[zK]
                      have:es'.length*sz'<=i*sz':=zA sz' (by omega)
                      omega
                    rw[iP (by omega),hpos,zF]
                    exact⟨y,by simpa using hy,hc.mono hf⟩
              · intro j b' hj hb' hb''
                rw[Map.setS_same]at hb'';simp[MS.has]at hb'';subst hb''
                exact hj (h.inj j l _ hb' hblk)
            · exact .ownArr l b sz' _ cap _ ty' (by have:=(zN.1 he).1;simp[Map.setS,h.n];exact this) (Map.setS_same _ _ _) hphys (by rw[Zt];exact hcs) hfit (fun h=>hz0' (by omega))
        · -- it grows
          obtain⟨us,c,hrun,hc1,hc2,hc3⟩:=ZDm (base:=base) (cap:=cap) (es:=es') (new:=new) (u:=v) (m:=m) (B:=B) g1 g2 g3 gt2 hz hz0 hb0 ty (by omega)
            ⟨us1,r1 w.drew rfl,s1,c1⟩ hlen ⟨us2,r2 w.drew rfl,s2,c2⟩ hbytes
          have hl:l<m.n:=by rw[h.n];exact(zN.1 he).1
          have hnpos:0<new.length:=by
            have:es'.length<=cap:=by
              rcases hcase with⟨h1,rfl⟩|⟨b,ccs,ty',h1,h2,h3,h4⟩
              · simp
              · generalize hnn:es'.length=nn at hs
                cases hs with
                |ownOther l n ao co hl hk' _=>have:=hk' es'.length (by rw[h1];rfl);omega
                |ownNil l a hl hk'=>rw[h1]at hk';cases hk'
                |ownArr l b sz' len cap ccs ty hl hk' hh hcap hlen=>exact hlen
            omega
          have hle:(m.f l).le (.arr w.heap.size sz' (es'.length+new.length)):=by
            rcases hcase with⟨h1,rfl⟩|⟨b,ccs,ty',h1,h2,h3,h4⟩
            · rw[h1];exact .inr (.inr (.inl ⟨0,_,rfl,rfl,by simp;exact hnpos⟩))
            · rw[h1];exact .inr (.inr (.inl ⟨_,_,rfl,rfl,by omega⟩))
          have hk':∀b,b<w.heap.size->(w.drew.alloc (.cells us e)).heap[b]? =w.heap[b]? :=fun b hb=>ZCV w.drew _ hb
          have hf:Fr m w (m.setS l (.arr w.heap.size sz' (es'.length+new.length))) (w.drew.alloc (.cells us e)):=
            Fr.setNew hle (by simp) hk' (fun b hb=>by simp[MS.has]at hb;omega) rfl rfl rfl
          have hnewb:(w.drew.alloc (.cells us e)).heap[w.heap.size]? =some (.cells us e (0,0)):=ZBB w.drew _
          refine⟨_,_,_,m.setS l (.arr w.heap.size sz' (es'.length+new.length)),_,hrun,hK,?_,?_,hf⟩
          · refine h.upd hf l (by simp[Map.setS,h.n]) (fun j hj=>⟨by rw[zQ (Ne.symm hj)],Map.setS_other m l _ hj⟩) (fun j b' hj hb'=>hk' b' (h.lt_of_blk hb')) ?_ ?_
            · rw[ZR he,Map.setS_same]
              refine⟨fun e he=> ?_,by simpa using hB,.inr ⟨w.heap.size,us,ZOo e,by simp,hnewb,?_,fun i e k x hi hk=> ?_⟩⟩
              · rcases zX.1 he with he|he
                · exact hsz1 e he
                · exact hnew e he
              · rw[zV];exact zD (zA sz' hc1) hc2
              · obtain⟨y,hy,hc⟩:=hc3 i e k x hi hk
                exact⟨y,hy,hc.mono hf⟩
            · intro j b' hj hb' hb''
              rw[Map.setS_same]at hb'';simp[MS.has]at hb'';subst hb''
              exact absurd (h.lt_of_blk hb') (Nat.lt_irrefl _)
          · exact .ownArr l w.heap.size sz' _ c us e (by simpa[Map.setS]using hl) (Map.setS_same _ _ _) hnewb hc2 hc1 (fun h=>by omega)
      · exact hk.elim
    · exact hk.elim
  · exact hk.elim
end
end Go.Vl
namespace Go.Vl
open Go
open Go.Builtin renaming len_->yM,lenOf->yN,append_->yO
open Conc renaming lit_inv->yP
open Go.Instr renaming sliceBounds->yQ,sliceAt->yR,slice->yS,index->yT,sliceBound->yU
section
variable {P : Program} {B : Nat} {w : World} {m : Map} {σ : ZE}
variable {t:TypeId}{x:AV}{ts:Array TypeId}{u:Value}
theorem ZIX (h:Sim B m σ w){ty:TypeId}{K:AV->Prop}(hk:ZLH P t σ x K)(ht:ts[0]? =some t)(hx:Conc B (Av m) w m x u):
  Good B m w (fun r s=>K r/\s=σ) ((yM ts ty #[u]).run P w):=by
 unfold ZLH at hk
 split at hk
 ·next e g1=>
  have go:∀{es:List (List AV)},K (.lit (.int .i64 es.length))->(yN u).run P w=.ok es.length w->Good B m w (fun r s=>K r/\s=σ) ((yM ts ty #[u]).run P w):=by
   intro es hK hl
   refine Good.same h ⟨hK,rfl⟩ (.lit _) ?_
   cases u with
   |slice a n c=>
    simp[yN]at hl
    simp[yM,ht,ZG g1,goInt,hl]
   |string s=>
    exfalso
    split at hk
    ·cases hx
    ·have:=yP hx;cases this
    ·next l k=>
     cases hx
    ·exact hk
   |_=>simp[yN]at hl
  split at hk
  ·next es=>
   obtain⟨es',rfl,hl,_⟩:=ZAt (P:=P) h (x:=.arr es) (K:=fun e=>e=es) rfl hx
   exact go hk hl
  ·obtain⟨es',rfl,hl,_⟩:=ZAt (P:=P) h (x:=.lit (.slice none 0 0)) (K:=fun e=>e=[]) rfl hx
   exact go (es:=[]) hk hl
  ·next l k=>exact go (es:=List.replicate k []) (by simpa using hk) (by cases hx<;>simp[yN])
  ·exact hk.elim
 ·next g1=>
  split at hk
  ·obtain rfl:=yP hx
   exact Good.same h ⟨hk,rfl⟩ (.lit _) (by simp[yM,ht,ZG g1,goInt])
  ·exact hk.elim
 ·next n e g1=>
  exact Good.same h ⟨hk,rfl⟩ (.lit _) (by simp[yM,ht,ZG g1,goInt])
 ·exact hk.elim
theorem ZIQ {s:ByteArray}{i:Nat}(h:i<s.size):s[i]? =some s[i]/\byteAt s i=s[i].toNat:=by
 refine⟨getElem?_pos s i h,?_⟩
 unfold byteAt
 have h':i<s.data.toList.length:=by simpa using h
 rw[List.getD_eq_getElem?_getD,zO h',Option.getD_some]
 rfl
theorem ZF1 (h:Sim B m σ w){i:AV}{K:AV->Prop}(hk:ZC2 P t x i K){v:Value}(hx:Conc B (Av m) w m x u)(hi:Conc B (Av m) w m i v):Good B m w (fun r s=>K r/\s=σ) ((yT t u v).run P w):=by
 unfold ZC2 at hk
 split at hk
 ·next s k n=>
  obtain⟨g1,h0,hlt,hK⟩:=hk
  obtain rfl:=yP hx
  obtain rfl:=yP hi
  obtain⟨e1,e2⟩:=ZIQ hlt
  refine Good.same h ⟨hK,rfl⟩ (.lit _) ?_
  simp[yT,asIntOf,ZG g1,h0,e1,e2]
 ·next cs k n=>
  split at hk
  ·next len e hu=>
   split at hk
   ·next j hj=>
    obtain⟨g1,g2,g3,h0,hlt,hK⟩:=hk
    obtain rfl:=yP hi
    cases hx with
    |agg _ us hlen hc=>
     have hl:n.toNat<cs.length:=by omega
     have hcc:=hc n.toNat (cs.getD n.toNat .junk) (by simp[zZ,hl])
     have hlt':n<(len:Int):=by omega
     have hus:n.toNat<us.size:=by omega
     have e:us.getD n.toNat undef=us[n.toNat]:=by simp[yE,hus]
     rw[e]at hcc
     refine Good.same h ⟨hK,rfl⟩ hcc ?_
     simp[yT,asIntOf,ZG hu,h0,hlt',part,ZCF hj,g1,ZCc hj,g2,hus]
   ·exact hk.elim
  ·exact hk.elim
 ·exact hk.elim
theorem ZF2 (h:Sim B m σ w){f:Nat}{K:AV->Prop}(hk:ZDs P t x f K)(hx:Conc B (Av m) w m x u):Good B m w (fun r s=>K r/\s=σ) ((Instr.field t u f).run P w):=by
 unfold ZDs at hk
 split at hk
 ·next cs fs hu=>
  split at hk
  ·next d hd=>
   split at hk
   ·next j hj=>
    obtain⟨g1,hlt,hK⟩:=hk
    cases hx with
    |agg _ us hlen hc=>
     have hcc:=hc d.offset (cs.getD d.offset .junk) (by simp[zZ,hlt])
     have hus:d.offset<us.size:=by omega
     have e:us.getD d.offset undef=us[d.offset]:=by simp[yE,hus]
     rw[e]at hcc
     refine Good.same h ⟨hK,rfl⟩ hcc ?_
     simp[Instr.field,ZG hu,hd,part,asAgg,ZCF hj,g1,hus]
   ·exact hk.elim
  ·exact hk.elim
 ·exact hk.elim
theorem ZAW {x:Option AV}{d:Nat}{K:Nat->Prop}(hk:ZAm x d K){u:Option Value}(hn:x=none↔u=none)
  (hc:∀a b,x=some a->u=some b->Conc B (Av m) w m a b):
  (x=none/\u=none/\K d)∨∃k n,u=some (.int k n)/\0<=n/\K n.toNat:=by
 unfold ZAm at hk
 split at hk
 ·exact .inl ⟨rfl,hn.1 rfl,hk⟩
 ·next k n=>
  right
  cases u with
  |none=>have:=hn.2 rfl;cases this
  |some v=>
   obtain rfl:=yP (hc _ v rfl rfl)
   exact⟨k,n,rfl,hk⟩
 ·exact hk.elim
theorem ZAQ {k:IntKind}{n:Int}{y:Nat}{code:BoundsCode}(h0:0<=n)(h1:n.toNat<=y):(yU (.int k n) y code).run P w=.ok n.toNat w:=by
 have:0<=n/\n<=(y:Int):=⟨h0,by omega⟩
 simp[yU,asIntOf,this]
variable {K:AV->ZE->Prop}
theorem ZFz (h:Sim B m σ w){lo hi mx:Option AV}(hk:ZBx P t σ x lo hi mx K){ul uh um:Option Value}(hx:Conc B (Av m) w m x u)(n1:lo=none↔ul=none)(c1:∀a b,lo=some a->ul=some b->Conc B (Av m) w m a b)(n2:hi=none↔uh=none)(c2:∀a b,hi=some a->uh=some b->Conc B (Av m) w m a b)(n3:mx=none↔um=none):
  Good B m w K ((yR t u ul uh um).run P w):=by
 unfold ZBx at hk
 split at hk
 ·next s=>
  obtain⟨g1,hk⟩:=hk
  obtain rfl:=yP hx
  obtain rfl:=n3.1 rfl
  have key:∃l hh,l<=hh/\hh<=s.size/\K (.lit (.string (s.extract l hh))) σ/\(yQ false s.size s.size ul uh none).run P w=.ok (l,hh,s.size) w:=by
   rcases ZAW hk n1 c1 with⟨_,rfl,hk⟩|⟨k,n,rfl,h0,hk⟩<;>
   rcases ZAW hk n2 c2 with⟨_,rfl,hk⟩|⟨k',n',rfl,h0',hk⟩
   ·exact⟨_,_,hk.1,hk.2.1,hk.2.2,by simp[yQ]⟩
   ·exact⟨_,_,hk.1,hk.2.1,hk.2.2,by simp[yQ,ZAQ h0' hk.2.1]⟩
   ·exact⟨_,_,hk.1,hk.2.1,hk.2.2,by simp[yQ,ZAQ h0 hk.1]⟩
   ·exact⟨_,_,hk.1,hk.2.1,hk.2.2,by simp[yQ,ZAQ h0' hk.2.1,ZAQ h0 hk.1]⟩
  obtain⟨l,hh,h1,h2,hK,hrun⟩:=key
  refine Good.same h hK (.lit _) ?_
  simp[yR,ZG g1,yS,hrun]
 ·next es=>
  split at hk
  ·next sz by_ zs size z hti=>
   obtain⟨hsz,hk⟩:=hk
   obtain⟨e,ie,g1,g2,g3,_,_⟩:=ZBk hti
   obtain rfl:=n3.1 rfl
   have hse:(sizeOf e).run P w=.ok sz w:=by simp[sizeOf,typeInfo,g2,g3]
   obtain⟨a,cap,rfl,hcap⟩:∃a cap,u=.slice a es.length cap/\es.length<=cap:=by
    cases hx with
    |arrNil a cap=>exact⟨a,cap,rfl,Nat.zero_le _⟩
    |arr es b off sz cap ys hB hs hW hb hcap=>exact⟨_,cap,rfl,hcap⟩
   have key:∃l hh,l<=hh/\hh<=es.length/\K (.arr ((es.drop l).take (hh-l))) σ/\(yQ true es.length cap ul uh none).run P w=.ok (l,hh,cap) w:=by
    rcases ZAW hk n1 c1 with⟨_,rfl,hk⟩|⟨k,n,rfl,h0,hk⟩<;>
    rcases ZAW hk n2 c2 with⟨_,rfl,hk⟩|⟨k',n',rfl,h0',hk⟩
    ·exact⟨_,_,hk.1,hk.2.1,hk.2.2,by simp[yQ]⟩
    ·exact⟨_,_,hk.1,hk.2.1,hk.2.2,by simp[yQ,ZAQ h0' (zD hk.2.1 hcap)]⟩
    ·exact⟨_,_,hk.1,hk.2.1,hk.2.2,by simp[yQ,ZAQ h0 hk.1]⟩
    ·exact⟨_,_,hk.1,hk.2.1,hk.2.2,by simp[yQ,ZAQ h0' (zD hk.2.1 hcap),ZAQ h0 hk.1]⟩
   obtain⟨l,hh,h1,h2,hK,hrun⟩:=key
   refine Good.same h hK (u:=.slice (if cap=l then a else a.map (·.add (l*sz))) (hh-l) (cap-l)) ?_ ?_
   ·by_cases h0:hh-l=0
    ·rw[h0,List.take_zero];exact .arrNil _ _
    ·cases hx with
     |arrNil a cap=>simp at h2;omega
     |arr es b off sz' cap ys hB hs hW hb hcap hc hx=>
      have hss:sz'=sz:=by
       cases es with
       |nil=>simp at h2;omega
       |cons e r=>rw[←hs e (by simp),←hsz e (by simp)]
      subst hss
      have hlen:((es.drop l).take (hh-l)).length=hh-l:=by simp;omega
      have hget:∀(i:Nat) (e:List AV),((es.drop l).take (hh-l))[i]? =some e->es[l+i]? =some e:=by
       intro i e hi
       rw[List.getElem?_take]at hi
       split at hi
       ·rwa[List.getElem?_drop]at hi
       ·cases hi
      rw[iN (by omega)]
      simp only[Option.map_some,ZBw]
      have:=Conc.arr (B:=B) (W:=Av m) (w:=w) (m:=m) ((es.drop l).take (hh-l)) b (off+l*sz') sz' (cap-l) (fun i k=>ys (l+i) k)
       (by rw[hlen];omega) (fun e he=>hsz e (List.mem_of_mem_drop (List.mem_of_mem_take he))) hW hb (by rw[hlen];omega)
       (fun i e k x hi hk=>by
        have:=hc (l+i) e k x (hget i e hi) hk
        rw[zB]at this
        rw[←this];congr 2;omega)
       (fun i e k x hi hk=>hx (l+i) e k x (hget i e hi) hk)
      rw[hlen]at this
      exact this
   ·simp[yR,ZG g1,yS,hrun,hse]
  ·exact hk.elim
 ·next l n=>
  split at hk
  ·next sz by_ zs size z hti=>
   obtain⟨e,ie,g1,g2,g3,_,_⟩:=ZBk hti
   obtain rfl:=n3.1 rfl
   obtain rfl:=n1.1 rfl
   have hse:(sizeOf e).run P w=.ok sz w:=by simp[sizeOf,typeInfo,g2,g3]
   obtain⟨a,cap,rfl,hcap⟩:∃a cap,u=.slice a n cap/\n<=cap:=by
    cases hx with
    |ownOther _ _ a cap _ _ hcap=>exact⟨a,cap,rfl,hcap⟩
    |ownNil _ a _ _=>exact⟨a,0,rfl,zC _⟩
    |ownArr _ _ _ _ cap _ _ _ _ _ _ hcap=>exact⟨_,cap,rfl,hcap⟩
   have key:∃hh,hh<=n/\K (.pre l n hh) σ/\(yQ true n cap none uh none).run P w=.ok (0,hh,cap) w:=by
    rcases ZAW hk n2 c2 with⟨_,rfl,hk⟩|⟨k',n',rfl,h0',hk⟩
    ·exact⟨_,hk.1,hk.2,by simp[yQ]⟩
    ·exact⟨_,hk.1,hk.2,by simp[yQ,ZAQ h0' (zD hk.1 hcap)]⟩
   obtain⟨hh,h1,hK,hrun⟩:=key
   refine Good.same h hK (u:=.slice (if cap=0 then a else a.map (·.add (0*sz))) (hh-0) (cap-0)) ?_ ?_
   ·have ha:(if cap=0 then a else a.map (·.add (0*sz)))=a:=by
     split
     ·rfl
     ·cases a with
      |none=>rfl
      |some p=>simp[Addr.add]
    rw[ha,zI,zI]
    cases hx with
    |ownOther _ _ a cap hl hk' hcap=>exact .preOther l n hh _ hl hk'
    |ownNil _ a hl hk'=>
     obtain rfl:hh=0:=by omega
     exact .preNil l a hl hk'
    |ownArr _ b sz' _ cap ccs ty hl hk' hh' hcap' hlen=>exact .preArr l b sz' n hh cap ccs ty hl hk' h1 hh' hcap' hlen
   ·simp[yR,ZG g1,yS,hrun,hse]
  ·exact hk.elim
 ·exact hk.elim
def RelO (B:Nat)(m:Map)(w:World)(ρ:Operand->AV)(ρc:Operand->Value):Prop:=∀x,Conc B (Av m) w m (ρ x) (ρc x)
variable {ρ:Operand->AV}{ρc:Operand->Value}
theorem ZEe (h:RelO B m w ρ ρc)(xs:Array Operand):
  (xs.map ρc).size=(xs.toList.map ρ).length/\∀(i:Nat) (x:AV),(xs.toList.map ρ)[i]? =some x->Conc B (Av m) w m x ((xs.map ρc).getD i undef):=by
 refine⟨by simp,fun i x hi=> ?_⟩
 simp only[zW,yF]at hi
 obtain⟨o,ho,rfl⟩:=hi
 have ho':xs[i]? =some o:=by simpa using ho
 have:(xs.map ρc).getD i undef=ρc o:=by simp[Array.getD_eq_getD_getElem?,ho']
 rw[this];exact h o
theorem ZFD (h:RelO B m w ρ ρc)(xs:Array (Nat×Operand)):
  (xs.toList.map fun p=>(p.1,ρ p.2)).length=(xs.map fun(i,x)=>(i,ρc x)).size/\
  ∀(i:Nat) p q,(xs.toList.map fun p=>(p.1,ρ p.2))[i]? =some p->(xs.map fun(i,x)=>(i,ρc x))[i]? =some q->p.1=q.1/\Conc B (Av m) w m p.2 q.2:=by
 refine⟨by simp,fun i p q hp hq=> ?_⟩
 simp only[zW,yF]at hp
 simp only[Array.getElem?_map,yF]at hq
 obtain⟨o,ho,rfl⟩:=hp
 obtain⟨o',ho',rfl⟩:=hq
 have:xs[i]? =some o:=by simpa using ho
 rw[this]at ho';obtain rfl:=yA ho'
 exact⟨rfl,h _⟩
def GoodN (B:Nat)(m:Map)(w:World)(K:AV->ZE->Prop)(R:Result Next):Prop:=
 ∃nx u r σ' m' w',R=.ok nx w'/\(nx=.value u∨(nx=.skip/\u=undef))/\K r σ'/\Sim B m' σ' w'/\Conc B (Av m') w' m' r u/\Fr m w m' w'
theorem Good.toN {K':AV->ZE->Prop}{s:Sem Value}(h:Good B m w K (s.run P w))(hK:∀r σ',K r σ'->K' r σ'):
  GoodN B m w K' ((do pure (.value (←s)):Sem Next).run P w):=by
 obtain⟨u,r,σ',m',w',hR,hk,h1,h2,h3⟩:=h
 exact⟨.value u,u,r,σ',m',w',by simp[hR],.inl rfl,hK _ _ hk,h1,h2,h3⟩
theorem GoodN.val (h:Sim B m σ w){r:AV}(hK:K r σ)(hc:Conc B (Av m) w m r u):GoodN B m w K (.ok (.value u) w):=
 ⟨_,u,r,σ,m,w,rfl,.inl rfl,hK,h,hc,Fr.refl m w⟩
variable {xs:Array Operand}
theorem ZKU (h:xs.toList.map ρ=[x]):∃o,xs=#[o]/\ρ o=x:=by
 obtain⟨l⟩:=xs
 match l,h with
 | [o],h=>simp at h;exact⟨o,rfl,h⟩
theorem ZEZ {y:AV}(h:xs.toList.map ρ=[x,y]):∃o o',xs=#[o,o']/\ρ o=x/\ρ o'=y:=by
 obtain⟨l⟩:=xs
 match l,h with
 | [o,o'],h=>simp at h;exact⟨o,o',rfl,h.1,h.2⟩
theorem ZD6 (h:Sim B m σ w){b:Builtin}{args:Array Operand}(hρ:RelO B m w ρ ρc)(hk:ZAx P B b ts σ (args.toList.map ρ) K)(ty:TypeId)(consts:Array Bool):GoodN B m w K ((builtin b ts ty consts (args.map ρc)).run P w):=by
 unfold ZAx at hk
 split at hk
 ·next x hl=>
  obtain⟨o,rfl,rfl⟩:=ZKU hl
  split at hk
  ·next t ht=>
   have:=ZIX (ty:=ty) h hk ht (hρ o)
   simpa[builtin]using this.toN (K':=K) (fun r s hh=>by obtain⟨h1,rfl⟩:=hh;exact h1)
  ·exact hk.elim
 ·next s x hl=>
  obtain⟨o,o',rfl,rfl,rfl⟩:=ZEZ hl
  split at hk
  ·next t t2 h1 h2=>
   have:=ZE2 (ty:=ty) h hk (hρ o) (hρ o')
   have e:(yO #[t,t2] ty #[ρc o,ρc o'])=(yO ts ty #[ρc o,ρc o']):=by
    unfold yO;simp[h1,h2]
   rw[e]at this
   simpa[builtin]using this.toN (K':=K) (fun r s hh=>hh)
  ·exact hk.elim
 ·next k a k' b hl=>
  obtain⟨o,o',rfl,h1,h2⟩:=ZEZ hl
  have e1:=hρ o;have e2:=hρ o'
  rw[h1]at e1;rw[h2]at e2
  have e1:=yP e1;have e2:=yP e2
  have:(builtin .min ts ty consts (#[o,o'].map ρc)).run P w=.ok (.value (.int k (if b<a then b else a))) w:=by
   simp[builtin,Builtin.min_,Builtin.min2,e1,e2]
  rw[this];exact GoodN.val h hk (.lit _)
 ·next k a k' b hl=>
  obtain⟨o,o',rfl,h1,h2⟩:=ZEZ hl
  have e1:=hρ o;have e2:=hρ o'
  rw[h1]at e1;rw[h2]at e2
  have e1:=yP e1;have e2:=yP e2
  have:(builtin .max ts ty consts (#[o,o'].map ρc)).run P w=.ok (.value (.int k (if b>a then b else a))) w:=by
   simp[builtin,Builtin.max_,Builtin.max2,e1,e2]
  rw[this];exact GoodN.val h hk (.lit _)
 ·exact hk.elim
end
end Go.Vl
