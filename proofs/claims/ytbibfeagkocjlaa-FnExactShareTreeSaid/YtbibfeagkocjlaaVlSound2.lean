/- The value-level layer, part 5: stores, new blocks, addresses. -/
import Derived.Test.YtbibfeagkocjlaaVlSound
set_option linter.all false
namespace Go.Vl
open Go
theorem ZFO {e : List AV} {off : Nat} {cs : List AV} {K : List AV → Prop} (h : wrE e off cs K) :
    ∃new,K new∧new.length=e.length∧off+cs.length≤e.length∧∀(i:Nat) (x:AV),new[i]? =some x→
      (off≤i∧i<off+cs.length∧cs[i-off]? =some x)∨(¬(off≤i∧i<off+cs.length)∧e[i]? =some x):=by
  unfold wrE at h
  split at h
  · next hh=>
    obtain⟨rfl,hl⟩:=hh
    refine⟨cs,h,hl,by omega,fun i x hi=>.inl ⟨Nat.zero_le _,?_,hi⟩⟩
    have:=(List.getElem?_eq_some_iff.1 hi).1;omega
  · obtain⟨h1,h2⟩:=h
    refine⟨_,h2,by simp;omega,h1,fun i x hi=> ?_⟩
    have hlt:(e.take off).length=off:=by simp;omega
    by_cases a:i<off
    · right
      refine⟨by omega,?_⟩
      rw[List.append_assoc,List.getElem?_append_left (by omega),List.getElem?_take,if_pos a]at hi
      exact hi
    · by_cases b:i<off+cs.length
      · left
        refine⟨by omega,b,?_⟩
        rw[List.append_assoc,List.getElem?_append_right (by omega),hlt,List.getElem?_append_left (by omega)]at hi
        exact hi
      · right
        refine⟨by omega,?_⟩
        rw[List.append_assoc,List.getElem?_append_right (by omega),hlt,List.getElem?_append_right (by omega),List.getElem?_drop]at hi
        rw[←hi];congr 1;omega
section
variable {B : Nat} {w : World} {m : Map} {σ : ZA}
theorem ZH0 {m:Map}:∀b',Wr m b'→Wr m b':=fun _ h=>h
theorem ZM {α:Type}{l:List α}{i:Nat}{a b:α}(h:l[i]? =some a):(l.set i b)[i]? =some b:=by
  have:=(List.getElem?_eq_some_iff.1 h).1
  simp[this]
theorem Conc.nz {W:Nat→Prop}{x:AV}{y:Value}(h:Conc B W w m x y):Conc B W w m (nz x) y:=by
  unfold Vl.nz
  split
  · cases h;exact .arrNil none 0
  · exact h
theorem Conc.nzs {W:Nat→Prop}{x:AV}{y:Value}(σ:ZA)(h:Conc B W w m x y):Conc B W w m (nzs σ x) y:=by
  unfold Vl.nzs
  split
  · exact h
  · exact h.nz
theorem ZKw {P : Program} (h : Sim B m σ w) {p : AV} {cs : List AV} {K : ZA → Prop} (hk : wrN σ p cs K) {u : Value} (hx : Conc B (Av m) w m p u)
    {vs:List Value} (hlen:vs.length=cs.length) (hv:∀(i:Nat) (x:AV),cs[i]? =some x→∃y:Value,vs[i]? =some y∧Conc B (Av m) w m x y)
    (h1:∀v,v∈vs→v.oneCell'=true):
    ∃a σ' w',u=.pointer (some a)∧K σ'∧(storeCells a vs).run P w=.ok () w'∧Sim B m σ' w'∧Fr m w m w':=by
  cases p with
  |ptr l off=>
    simp only[wrN]at hk
    split at hk
    · next old he=>
      obtain⟨new,hK,hnl,hle,hget⟩:=ZFO hk
      obtain⟨b,ccs,ty,g1,g2,g3,g4⟩:=h.cells he
      have hblk:(m.f l).has b:=by rw[g1];rfl
      obtain⟨b0,o0,hu,_⟩:=ZFX h he hx
      have hu':u=.pointer (some ⟨b,off,none⟩):=by
        cases hx with
        |ptrOther l off v hl hk=>exact absurd g1 (hk b)
        |ptrBox l off b' hl hk=>rw[g1]at hk;obtain rfl:=MS.box.inj hk;rfl
      have hf:Fr m w m (Zs w b (wrArr ccs off vs) ty):=
        Fr.put hblk g2 (Zi ..) m ZH0 (fun _ _=>.inl rfl) (Nat.le_refl _) rfl
      refine⟨_,_,_,hu',hK,?_,?_,hf⟩
      · have:=ZAi (P:=P) b ty off vs w ccs 0 g2 h1 (by omega)
        simpa using this
      · refine h.upd hf l (by simp[h.n]) (fun l' hl'=>⟨by rw[List.getElem?_set_ne (Ne.symm hl')],rfl⟩) (fun l' b' hl' hb'=> ?_) ?_ ?_
        · exact ZAG fun e=>hl' (h.inj l' l b' hb' (e▸hblk))
        · rw[ZM he]
          refine⟨b,_,ZO4 ty,g1,ZAW g2,by rw[Zi];omega,fun i x hi=> ?_⟩
          rw[ZAl vs off ccs i (by omega)]
          rcases hget i x hi with⟨a1,a2,a3⟩|⟨a1,a3⟩
          · rw[if_pos (by omega)]
            obtain⟨y,hy,hc⟩:=hv _ x a3
            exact⟨y,hy,hc.mono hf⟩
          · rw[if_neg (by omega)]
            obtain⟨y,hy,hc⟩:=g4 i x a3
            exact⟨y,hy,hc.mono hf⟩
        · intro l' b' hl' hb' hb''
          exact hl' (h.inj l' l b' hb' hb'')
    · exact hk.elim
  |eptr l k j off=>
    simp only[wrN]at hk
    split at hk
    · next sz es he=>
      obtain⟨hkk,hj,hk⟩:=hk
      obtain⟨new,hK,hnl,hle,hget⟩:=ZFO hk
      obtain⟨hsz,hB,hcase⟩:=h.elts he
      have hej:es[j]? =some (es.getD j []):=by simp[List.getD,hj]
      have hlj:(es.getD j []).length=sz:=hsz _ (List.mem_of_getElem? hej)
      rcases hcase with⟨_,h2⟩|⟨b,ccs,ty,g1,g2,g3,g4⟩
      · subst h2;simp at hj
      have hblk:(m.f l).has b:=by rw[g1];rfl
      have hu':u=.pointer (some ⟨b,j*sz+off,none⟩):=by
        cases hx with
        |eptrOther l n i off v hl hk'=>have:=hk' es.length (by rw[g1];rfl);omega
        |eptrArr l n i off b' sz' hl hk'=>rw[g1]at hk';obtain⟨rfl,rfl,_⟩:=MS.arr.inj hk';rfl
      have hjs:j*sz+sz≤es.length*sz:=by
        have:(j+1)*sz≤es.length*sz:=Nat.mul_le_mul_right sz hj
        rw[Nat.add_mul]at this;omega
      have hf:Fr m w m (Zs w b (wrArr ccs (j*sz+off) vs) ty):=
        Fr.put hblk g2 (Zi ..) m ZH0 (fun _ _=>.inl rfl) (Nat.le_refl _) rfl
      refine⟨_,_,_,hu',hK,?_,?_,hf⟩
      · have:=ZAi (P:=P) b ty (j*sz+off) vs w ccs 0 g2 h1 (by omega)
        simpa using this
      · refine h.upd hf l (by simp[h.n]) (fun l' hl'=>⟨by rw[List.getElem?_set_ne (Ne.symm hl')],rfl⟩) (fun l' b' hl' hb'=> ?_) ?_ ?_
        · exact ZAG fun e=>hl' (h.inj l' l b' hb' (e▸hblk))
        · rw[ZM he]
          refine⟨fun e hemem=> ?_,by simpa using hB,.inr ⟨b,_,ZMP ty,by simpa using g1,ZAW g2,by rw[Zi];simpa using g3,fun i e k' x hi hk'=> ?_⟩⟩
          · obtain⟨i,hi⟩:=List.getElem?_of_mem hemem
            by_cases hij:i=j
            · subst hij;rw[ZM hej]at hi;obtain rfl:=Option.some.inj hi;simp;omega
            · rw[List.getElem?_set_ne (Ne.symm hij)]at hi;exact hsz _ (List.mem_of_getElem? hi)
          · rw[ZAl vs _ ccs _ (by omega)]
            by_cases hij:i=j
            · subst hij
              rw[ZM hej]at hi;obtain rfl:=Option.some.inj hi
              rw[List.getElem?_map,Option.map_eq_some_iff]at hk'
              obtain⟨x,hk',rfl⟩:=hk'
              rcases hget k' x hk' with⟨a1,a2,a3⟩|⟨a1,a3⟩
              · rw[if_pos (by omega)]
                obtain⟨y,hy,hc⟩:=hv _ x a3
                exact⟨y,by rw[show i*sz+k'- (i*sz+off)=k'-off by omega];exact hy,(hc.mono hf).nzs σ⟩
              · rw[if_neg (by omega)]
                obtain⟨y,hy,hc⟩:=g4 i _ k' x hej a3
                exact⟨y,hy,(hc.mono hf).nzs σ⟩
            · rw[List.getElem?_set_ne (Ne.symm hij)]at hi
              have hk'':k'<sz:=by
                have:=(List.getElem?_eq_some_iff.1 hk').1
                rw[hsz e (List.mem_of_getElem? hi)]at this;exact this
              have hne:¬(j*sz+off≤i*sz+k'∧i*sz+k'<j*sz+off+vs.length):=by
                rcases Nat.lt_or_gt_of_ne hij with hlt|hgt
                · have:(i+1)*sz≤j*sz:=Nat.mul_le_mul_right sz hlt
                  rw[Nat.add_mul]at this;omega
                · have:(j+1)*sz≤i*sz:=Nat.mul_le_mul_right sz hgt
                  rw[Nat.add_mul]at this;omega
              rw[if_neg hne]
              obtain⟨y,hy,hc⟩:=g4 i e k' x hi hk'
              exact⟨y,hy,hc.mono hf⟩
        · intro l' b' hl' hb' hb''
          exact hl' (h.inj l' l b' hb' hb'')
    · exact hk.elim
  |_=>exact hk.elim
theorem ZAe (h : Sim B m σ w) {x : AV} {K : List AV → Prop} (hk : x.cellsK σ K) {u : Value} (hx : Conc B (Av m) w m x u) :
    ∃cs,K cs∧u.cells.size=cs.length∧∀(i:Nat) (y:AV),cs[i]? =some y→Conc B (Av m) w m y (u.cells.getD i undef):=by
  by_cases hagg:∃cs,x=.agg cs
  · obtain⟨cs,rfl⟩:=hagg
    cases hx with
    |agg cs us hlen hx=>exact⟨cs,hk,hlen,hx⟩
  · have hk':ok1 σ x∧K [x]:=by
      cases x<;>first|exact hk|exact absurd ⟨_,rfl⟩ hagg
    have h1:=ZFm h hx hk'.1
    have hc:u.cells=#[u]:=by cases u<;>first|rfl|simp[Value.oneCell']at h1
    refine⟨[x],hk'.2,by rw[hc];rfl,fun i y hi=> ?_⟩
    cases i with
    |zero=>simp at hi;subst hi;rw[hc];exact hx
    |succ i=>simp at hi
theorem ZCT :∀{cs:List AV} {i:Nat} {x:AV},Ze σ cs→cs[i]? =some x→ok1 σ x
  |c::r,0,x,h,hi=>by simp at hi;subst hi;exact h.1
  |c::r,i+1,x,h,hi=>ZCT h.2 (by simpa using hi)
theorem cells_list {cs : List AV} {us : Array Value} (hlen : us.size = cs.length) (hc : ∀ (i : Nat) (y : AV), cs[i]? = some y → Conc B (Av m) w m y (us.getD i undef)) :
    ∀(i:Nat) (x:AV),cs[i]? =some x→∃y:Value,us.toList[i]? =some y∧Conc B (Av m) w m x y:=by
  intro i x hi
  have hi':i<us.size:=by rw[hlen];exact(List.getElem?_eq_some_iff.1 hi).1
  refine⟨us[i],by simp[hi'],?_⟩
  have:=hc i x hi
  rwa[Array.getD_eq_getD_getElem?,Array.getElem?_eq_getElem hi',Option.getD_some]at this
theorem ZI9 (h : Sim B m σ w) {cs : List AV} {us : Array Value} (hlen : us.size = cs.length)
    (hc:∀(i:Nat) (x:AV),cs[i]? =some x→∃y:Value,us.toList[i]? =some y∧Conc B (Av m) w m x y) (ho:Ze σ cs):
    ∀v,v∈us.toList→v.oneCell'=true:=by
  intro v hv
  obtain⟨i,hi⟩:=List.getElem?_of_mem hv
  have hil:i<cs.length:=by rw[←hlen];have:=(List.getElem?_eq_some_iff.1 hi).1;simpa using this
  obtain⟨y,hy,hxy⟩:=hc i cs[i] (List.getElem?_eq_getElem hil)
  rw[hi]at hy;obtain rfl:=Option.some.inj hy
  exact ZFm h hxy (ZCT ho (List.getElem?_eq_getElem hil))
theorem ZFH {P : Program} (h : Sim B m σ w) {t : TypeId} {p x : AV} {K : ZA → Prop} (hk : ZDE P t σ p x K) {u v : Value}
    (hx:Conc B (Av m) w m p u) (hv:Conc B (Av m) w m x v):
    ∃σ' w',K σ'∧(Instr.storeAt t u v).run P w=.ok () w'∧Sim B m σ' w'∧Fr m w m w':=by
  unfold ZDE at hk
  split at hk
  · next i hi=>
    obtain⟨cs,⟨hs,ho,hw⟩,hlen,hc⟩:=ZAe h hk hv
    have hcl:=cells_list hlen hc
    obtain⟨a,σ',w',rfl,hK,hrun,hs',hf⟩:=ZKw (P:=P) h hw hx (vs:=v.cells.toList) (by simpa using hlen) hcl (ZI9 h hlen hcl ho)
    refine⟨σ',w',hK,?_,hs',hf⟩
    simp[Instr.storeAt,Instr.sureAddr,storeVar,ZCF hi,hlen,hs,hrun]
  · exact hk.elim
theorem ZBk (h : Sim B m σ w) {p : AV} (hk : ZBl σ p) {u : Value} (hx : Conc B (Av m) w m p u) (n : Nat) :
    ∃b o,u=.pointer (some ⟨b,o,none⟩)∧Conc B (Av m) w m (p.adv n) (.pointer (some ⟨b,o+n,none⟩)):=by
  cases p with
  |rptr e off=>
    cases hx with
    |rptr e off b o ys hW hb hc hx=>exact⟨b,o+off,rfl,by rw[Nat.add_assoc];exact .rptr e (off+n) b o ys hW hb hc hx⟩
  |ptr l off=>
    simp only[ZBl]at hk
    split at hk
    · next cs he=>
      obtain⟨b,ccs,ty,g1,_⟩:=h.cells he
      cases hx with
      |ptrOther l off v hl hk=>exact absurd g1 (hk b)
      |ptrBox l off b' hl hk=>exact⟨b',off,rfl,.ptrBox l (off+n) b' hl hk⟩
    · exact hk.elim
  |eptr l k i off=>
    simp only[ZBl]at hk
    split at hk
    · next sz es he=>
      obtain⟨_,_,hc⟩:=h.elts he
      rcases hc with⟨g1,g2⟩|⟨b,ccs,ty,g1,_⟩
      · exact absurd g2 hk.2
      · cases hx with
        |eptrOther l n' i off v hl hk'=>have:=hk' es.length (by rw[g1];rfl);omega
        |eptrArr l n' i off b' sz' hl hk'=>exact⟨b',i*sz'+off,rfl,by rw[Nat.add_assoc];exact .eptrArr l k i (off+n) b' sz' hl hk'⟩
    · exact hk.elim
  |_=>exact hk.elim
theorem ZBp {P:Program}{t:TypeId}{s:Nat}(h:P.cellsOf t=s+1):(sizeOf t).run P w=.ok (s+1) w:=by
  unfold Program.cellsOf at h
  cases hi:P.info? t with
  |none=>simp[hi]at h
  |some i=>simp[hi]at h;simp[sizeOf,typeInfo,hi,h]
theorem ZEY {P : Program} {t : TypeId} {offs : List (Nat × Nat)} {sz : Nat} {z : List Value} (h : Zl P t = some ⟨.struct offs, sz, z⟩) :
    ∃fs,P.underlying t=some (.struct fs)∧offs=fs.toList.map fun f=>(f.offset,P.cellsOf f.type):=by
  obtain⟨d,ti,h1,_,h3,_⟩:=ZCl h
  cases d with
  |struct fs=>simp only[ZHw,Sh.struct.injEq]at h3;exact⟨fs,h1,h3⟩
  |slice e=>simp only[ZHw]at h3;cases hp:P.info? e<;>simp[hp]at h3
  |_=>simp[ZHw]at h3
theorem ZJT {P : Program} {t : TypeId} {n s sz : Nat} {z : List Value} (h : Zl P t = some ⟨.array n s, sz, z⟩) :
    ∃e,P.underlying t=some (.array n e)∧P.cellsOf e=s:=by
  obtain⟨d,ti,h1,_,h3,_⟩:=ZCl h
  cases d with
  |array n' e=>simp only[ZHw,Sh.array.injEq]at h3;obtain⟨rfl,rfl⟩:=h3;exact⟨e,h1,rfl⟩
  |slice e=>simp only[ZHw]at h3;cases hp:P.info? e<;>simp[hp]at h3
  |_=>simp[ZHw]at h3
theorem ZBO {P : Program} {t : TypeId} {s by_ sz : Nat} {zs z : List Value} (h : Zl P t = some ⟨.slice s by_ zs, sz, z⟩) :
    ∃e i,P.underlying t=some (.slice e)∧P.info? e=some i∧i.size=s∧i.bytes=by_∧ZAP i=zs:=by
  obtain⟨d,ti,h1,_,h3,_⟩:=ZCl h
  cases d with
  |slice e=>
    simp only[ZHw]at h3
    cases hp:P.info? e with
    |none=>simp[hp]at h3
    |some i=>simp[hp]at h3;exact⟨e,i,h1,hp,h3.1.symm,h3.2.1.symm,h3.2.2.symm⟩
  |_=>simp[ZHw]at h3
theorem ZCh {P : Program} (h : Sim B m σ w) {t : TypeId} {p : AV} {f : Nat} {K : AV → Prop} (hk : Zt P t σ p f K) {u : Value}
    (hx:Conc B (Av m) w m p u):∃x v,K x∧(Instr.fieldAt t u f).run P w=.ok v w∧Conc B (Av m) w m x v:=by
  unfold Zt at hk
  split at hk
  · next offs sz z hi=>
    split at hk
    · next o s ho=>
      obtain⟨fs,g1,g2⟩:=ZEY hi
      subst g2
      simp only[List.getElem?_map,Option.map_eq_some_iff,Prod.mk.injEq]at ho
      obtain⟨fd,hfd,rfl,hs⟩:=ho
      obtain⟨b,o,rfl,hc⟩:=ZBk h hk.1 hx fd.offset
      refine⟨_,_,hk.2,?_,hc⟩
      have hfd':fs[f]? =some fd:=by simpa using hfd
      simp[Instr.fieldAt,ZF g1,hfd',Instr.sureAddr,fieldPlace,ZBp hs,ZBX]
    · exact hk.elim
  · exact hk.elim
theorem ZCg {P : Program} (h : Sim B m σ w) {t : TypeId} {x i : AV} {K : AV → Prop} (hk : Zg P t σ x i K) {u v : Value}
    (hx:Conc B (Av m) w m x u) (hi:Conc B (Av m) w m i v):∃x' v',K x'∧(Instr.indexAt t u v).run P w=.ok v' w∧Conc B (Av m) w m x' v':=by
  unfold Zg at hk
  split at hk
  · next k n sz by_ zs size z hti=>
    obtain⟨e,ie,g1,g2,g3,g4,g5⟩:=ZBO hti
    obtain rfl:=Conc.lit_inv hi
    have hsz:(sizeOf e).run P w=.ok sz w:=by simp[sizeOf,typeInfo,g2,g3]
    split at hk
    · next es=>
      obtain⟨h0,hlt,hlen,hK⟩:=hk
      cases hx with
      |arrNil a cap=>simp at hlt
      |arr es b off sz' cap ys hB hs hW hb hcap hc hx=>
        have he:es[n.toNat]? =some (es.getD n.toNat []):=by simp[List.getD,hlt]
        have:sz'=sz:=by rw[←hlen];exact(hs _ (List.mem_of_getElem? he)).symm
        subst this
        refine⟨_,_,hK,?_,.rptr _ 0 b (off+n.toNat*sz') (ys n.toNat) hW hb (fun k x hk=>hc _ _ k x he hk) (fun k x hk=>hx _ _ k x he hk)⟩
        have hn:0≤n∧n<(es.length:Int):=⟨h0,by omega⟩
        simp[Instr.indexAt,asIntOf,ZF g1,hn,hsz,ZBX]
    · next l kk=>
      split at hk
      · next sz' es he=>
        obtain⟨hkk,rfl,h0,hlt,hK⟩:=hk
        obtain⟨_,_,hc⟩:=h.elts he
        rcases hc with⟨_,h2⟩|⟨b,ccs,ty,h1,h2,h3,h4⟩
        · subst h2;simp at hkk;omega
        · cases hx with
          |ownOther l n' ao co hl hk' _=>have:=hk' es.length (by rw[h1];rfl);omega
          |ownNil l a hl hk'=>omega
          |ownArr l b' sz'' len cap ccs' ty' hl hk' hh hcap hlen=>
            rw[h1]at hk';obtain⟨rfl,rfl,_⟩:=MS.arr.inj hk'
            refine⟨_,_,hK,?_,.eptrArr l _ n.toNat 0 b sz' hl (hkk▸h1)⟩
            have hn:0≤n∧n<(kk:Int):=⟨h0,by omega⟩
            simp[Instr.indexAt,asIntOf,ZF g1,hn,hsz,ZBX]
      · exact hk.elim
    · exact hk.elim
  · next k n len sz size z hti=>
    obtain⟨e,g1,g2⟩:=ZJT hti
    obtain rfl:=Conc.lit_inv hi
    obtain⟨h0,hlt,hl,hK⟩:=hk
    obtain⟨b,o,rfl,hc⟩:=ZBk h hl hx (n.toNat*(sz+1))
    refine⟨_,_,hK,?_,hc⟩
    have hn:0≤n∧n<(len:Int):=⟨h0,by omega⟩
    simp[Instr.indexAt,asIntOf,ZF g1,hn,Instr.sureAddr,ZBp g2,ZBX]
  · exact hk.elim
end
end Go.Vl
