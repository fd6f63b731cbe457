/- The value-level layer, part 10: every operation that is no call of Go text. -/
import Derived.Test.YtbibfeagkocjlaaVlSound5
set_option linter.all false
namespace Go.Vl
open Go
section
variable {P : Program} {B : Nat} {w : World} {m : Map} {σ : ZA}
theorem ZHs (h : Sim B m σ w) {t ty : TypeId} {x : AV} {K : AV → Prop} (hk : ZKU P t σ x K) {ts : Array TypeId} (ht : ts[0]? = some t) {u : Value} (hx : Conc B (Av m) w m x u) :
    Good B m w (fun r s=>K r∧s=σ) ((Builtin.len_ ts ty #[u]).run P w):=by
  unfold ZKU at hk
  split at hk
  · next e g1=>
    have go:∀{es:List (List AV)},K (.lit (.int .i64 es.length))→(Builtin.lenOf u).run P w=.ok es.length w→Good B m w (fun r s=>K r∧s=σ) ((Builtin.len_ ts ty #[u]).run P w):=by
      intro es hK hl
      refine Good.same h ⟨hK,rfl⟩ (.lit _) ?_
      cases u with
      |slice a n c=>
        simp[Builtin.lenOf]at hl
        simp[Builtin.len_,ht,ZF g1,goInt,hl]
      |string s=>
        exfalso
        split at hk
        · cases hx
        · have:=Conc.lit_inv hx;cases this
        · next l k=>
          cases hx
        · exact hk
      |_=>simp[Builtin.lenOf]at hl
    split at hk
    · next es=>
      obtain⟨es',rfl,hl,_⟩:=ZAd (P:=P) h (x:=.arr es) (K:=fun e=>e=es) rfl hx
      exact go hk hl
    · obtain⟨es',rfl,hl,_⟩:=ZAd (P:=P) h (x:=.lit (.slice none 0 0)) (K:=fun e=>e=[]) rfl hx
      exact go (es:=[]) hk hl
    · next l k=>exact go (es:=List.replicate k []) (by simpa using hk) (by cases hx<;>simp[Builtin.lenOf])
    · exact hk.elim
  · next g1=>
    split at hk
    · obtain rfl:=Conc.lit_inv hx
      exact Good.same h ⟨hk,rfl⟩ (.lit _) (by simp[Builtin.len_,ht,ZF g1,goInt])
    · exact hk.elim
  · next n e g1=>
    exact Good.same h ⟨hk,rfl⟩ (.lit _) (by simp[Builtin.len_,ht,ZF g1,goInt])
  · exact hk.elim
theorem ZHl {s:ByteArray}{i:Nat}(h:i<s.size):s[i]? =some s[i]∧ZGu s i=s[i].toNat:=by
  refine⟨getElem?_pos s i h,?_⟩
  unfold ZGu
  have h':i<s.data.toList.length:=by simpa using h
  rw[List.getD_eq_getElem?_getD,List.getElem?_eq_getElem h',Option.getD_some]
  rfl
theorem ZFK (h : Sim B m σ w) {t : TypeId} {x i : AV} {K : AV → Prop} (hk : ZCc P t x i K) {u v : Value}
    (hx:Conc B (Av m) w m x u) (hi:Conc B (Av m) w m i v):Good B m w (fun r s=>K r∧s=σ) ((Instr.index t u v).run P w):=by
  unfold ZCc at hk
  split at hk
  · next s k n=>
    obtain⟨g1,h0,hlt,hK⟩:=hk
    obtain rfl:=Conc.lit_inv hx
    obtain rfl:=Conc.lit_inv hi
    obtain⟨e1,e2⟩:=ZHl hlt
    refine Good.same h ⟨hK,rfl⟩ (.lit _) ?_
    simp[Instr.index,asIntOf,ZF g1,h0,e1,e2]
  · next cs k n=>
    split at hk
    · next len e hu=>
      split at hk
      · next j hj=>
        obtain⟨g1,g2,g3,h0,hlt,hK⟩:=hk
        obtain rfl:=Conc.lit_inv hi
        cases hx with
        |agg _ us hlen hc=>
          have hl:n.toNat<cs.length:=by omega
          have hcc:=hc n.toNat (cs.getD n.toNat .junk) (by simp[List.getD,hl])
          have hlt':n<(len:Int):=by omega
          have hus:n.toNat<us.size:=by omega
          have e:us.getD n.toNat undef=us[n.toNat]:=by simp[Array.getD,hus]
          rw[e]at hcc
          refine Good.same h ⟨hK,rfl⟩ hcc ?_
          simp[Instr.index,asIntOf,ZF hu,h0,hlt',part,ZCo hj,g1,ZCF hj,g2,hus]
      · exact hk.elim
    · exact hk.elim
  · exact hk.elim
theorem ZAI {x : Option AV} {d : Nat} {K : Nat → Prop} (hk : ZAX x d K) {u : Option Value} (hn : x = none ↔ u = none)
    (hc:∀a b,x=some a→u=some b→Conc B (Av m) w m a b):
    (x=none∧u=none∧K d)∨∃k n,u=some (.int k n)∧0≤n∧K n.toNat:=by
  unfold ZAX at hk
  split at hk
  · exact .inl ⟨rfl,hn.1 rfl,hk⟩
  · next k n=>
    right
    cases u with
    |none=>have:=hn.2 rfl;cases this
    |some v=>
      obtain rfl:=Conc.lit_inv (hc _ v rfl rfl)
      exact⟨k,n,rfl,hk⟩
  · exact hk.elim
theorem ZAA {k:IntKind}{n:Int}{y:Nat}{code:BoundsCode}(h0:0≤n)(h1:n.toNat≤y):(Instr.sliceBound (.int k n) y code).run P w=.ok n.toNat w:=by
  have:0≤n∧n≤(y:Int):=⟨h0,by omega⟩
  simp[Instr.sliceBound,asIntOf,this]
theorem ZFI (h : Sim B m σ w) {t : TypeId} {x : AV} {lo hi mx : Option AV} {K : AV → ZA → Prop} (hk : ZBY P t σ x lo hi mx K) {u : Value} {ul uh um : Option Value}
    (hx:Conc B (Av m) w m x u) (n1:lo=none↔ul=none) (c1:∀a b,lo=some a→ul=some b→Conc B (Av m) w m a b)
    (n2:hi=none↔uh=none) (c2:∀a b,hi=some a→uh=some b→Conc B (Av m) w m a b) (n3:mx=none↔um=none):
    Good B m w K ((Instr.sliceAt t u ul uh um).run P w):=by
  unfold ZBY at hk
  split at hk
  · next s=>
    obtain⟨g1,hk⟩:=hk
    obtain rfl:=Conc.lit_inv hx
    obtain rfl:=n3.1 rfl
    have key:∃l hh,l≤hh∧hh≤s.size∧K (.lit (.string (s.extract l hh))) σ∧(Instr.sliceBounds false s.size s.size ul uh none).run P w=.ok (l,hh,s.size) w:=by
      rcases ZAI hk n1 c1 with⟨_,rfl,hk⟩|⟨k,n,rfl,h0,hk⟩<;>
      rcases ZAI hk n2 c2 with⟨_,rfl,hk⟩|⟨k',n',rfl,h0',hk⟩
      · exact⟨_,_,hk.1,hk.2.1,hk.2.2,by simp[Instr.sliceBounds]⟩
      · exact⟨_,_,hk.1,hk.2.1,hk.2.2,by simp[Instr.sliceBounds,ZAA h0' hk.2.1]⟩
      · exact⟨_,_,hk.1,hk.2.1,hk.2.2,by simp[Instr.sliceBounds,ZAA h0 hk.1]⟩
      · exact⟨_,_,hk.1,hk.2.1,hk.2.2,by simp[Instr.sliceBounds,ZAA h0' hk.2.1,ZAA h0 hk.1]⟩
    obtain⟨l,hh,h1,h2,hK,hrun⟩:=key
    refine Good.same h hK (.lit _) ?_
    simp[Instr.sliceAt,ZF g1,Instr.slice,hrun]
  · next es=>
    split at hk
    · next sz by_ zs size z hti=>
      obtain⟨hsz,hk⟩:=hk
      obtain⟨e,ie,g1,g2,g3,_,_⟩:=ZBO hti
      obtain rfl:=n3.1 rfl
      have hse:(sizeOf e).run P w=.ok sz w:=by simp[sizeOf,typeInfo,g2,g3]
      obtain⟨a,cap,rfl,hcap⟩:∃a cap,u=.slice a es.length cap∧es.length≤cap:=by
        cases hx with
        |arrNil a cap=>exact⟨a,cap,rfl,Nat.zero_le _⟩
        |arr es b off sz cap ys hB hs hW hb hcap=>exact⟨_,cap,rfl,hcap⟩
      have key:∃l hh,l≤hh∧hh≤es.length∧K (.arr ((es.drop l).take (hh-l))) σ∧(Instr.sliceBounds true es.length cap ul uh none).run P w=.ok (l,hh,cap) w:=by
        rcases ZAI hk n1 c1 with⟨_,rfl,hk⟩|⟨k,n,rfl,h0,hk⟩<;>
        rcases ZAI hk n2 c2 with⟨_,rfl,hk⟩|⟨k',n',rfl,h0',hk⟩
        · exact⟨_,_,hk.1,hk.2.1,hk.2.2,by simp[Instr.sliceBounds]⟩
        · exact⟨_,_,hk.1,hk.2.1,hk.2.2,by simp[Instr.sliceBounds,ZAA h0' (Nat.le_trans hk.2.1 hcap)]⟩
        · exact⟨_,_,hk.1,hk.2.1,hk.2.2,by simp[Instr.sliceBounds,ZAA h0 hk.1]⟩
        · exact⟨_,_,hk.1,hk.2.1,hk.2.2,by simp[Instr.sliceBounds,ZAA h0' (Nat.le_trans hk.2.1 hcap),ZAA h0 hk.1]⟩
      obtain⟨l,hh,h1,h2,hK,hrun⟩:=key
      refine Good.same h hK (u:=.slice (if cap=l then a else a.map (·.add (l*sz))) (hh-l) (cap-l)) ?_ ?_
      · by_cases h0:hh-l=0
        · rw[h0,List.take_zero];exact .arrNil _ _
        · cases hx with
          |arrNil a cap=>simp at h2;omega
          |arr es b off sz' cap ys hB hs hW hb hcap hc hx=>
            have hss:sz'=sz:=by
              cases es with
              |nil=>simp at h2;omega
              |cons e r=>rw[←hs e (by simp),←hsz e (by simp)]
            subst hss
            have hlen:((es.drop l).take (hh-l)).length=hh-l:=by simp;omega
            have hget:∀(i:Nat) (e:List AV),((es.drop l).take (hh-l))[i]? =some e→es[l+i]? =some e:=by
              intro i e hi
              rw[List.getElem?_take]at hi
              split at hi
              · rwa[List.getElem?_drop]at hi
              · cases hi
            rw[if_neg (by omega)]
            simp only[Option.map_some,ZBX]
            have:=Conc.arr (B:=B) (W:=Av m) (w:=w) (m:=m) ((es.drop l).take (hh-l)) b (off+l*sz') sz' (cap-l) (fun i k=>ys (l+i) k)
              (by rw[hlen];omega) (fun e he=>hsz e (List.mem_of_mem_drop (List.mem_of_mem_take he))) hW hb (by rw[hlen];omega)
              (fun i e k x hi hk=>by
                have:=hc (l+i) e k x (hget i e hi) hk
                rw[Nat.add_mul]at this
                rw[←this];congr 2;omega)
              (fun i e k x hi hk=>hx (l+i) e k x (hget i e hi) hk)
            rw[hlen]at this
            exact this
      · simp[Instr.sliceAt,ZF g1,Instr.slice,hrun,hse]
    · exact hk.elim
  · next l n=>
    split at hk
    · next sz by_ zs size z hti=>
      obtain⟨e,ie,g1,g2,g3,_,_⟩:=ZBO hti
      obtain rfl:=n3.1 rfl
      obtain rfl:=n1.1 rfl
      have hse:(sizeOf e).run P w=.ok sz w:=by simp[sizeOf,typeInfo,g2,g3]
      obtain⟨a,cap,rfl,hcap⟩:∃a cap,u=.slice a n cap∧n≤cap:=by
        cases hx with
        |ownOther _ _ a cap _ _ hcap=>exact⟨a,cap,rfl,hcap⟩
        |ownNil _ a _ _=>exact⟨a,0,rfl,Nat.le_refl _⟩
        |ownArr _ _ _ _ cap _ _ _ _ _ _ hcap=>exact⟨_,cap,rfl,hcap⟩
      have key:∃hh,hh≤n∧K (.pre l n hh) σ∧(Instr.sliceBounds true n cap none uh none).run P w=.ok (0,hh,cap) w:=by
        rcases ZAI hk n2 c2 with⟨_,rfl,hk⟩|⟨k',n',rfl,h0',hk⟩
        · exact⟨_,hk.1,hk.2,by simp[Instr.sliceBounds]⟩
        · exact⟨_,hk.1,hk.2,by simp[Instr.sliceBounds,ZAA h0' (Nat.le_trans hk.1 hcap)]⟩
      obtain⟨hh,h1,hK,hrun⟩:=key
      refine Good.same h hK (u:=.slice (if cap=0 then a else a.map (·.add (0*sz))) (hh-0) (cap-0)) ?_ ?_
      · have ha:(if cap=0 then a else a.map (·.add (0*sz)))=a:=by
          split
          · rfl
          · cases a with
            |none=>rfl
            |some p=>simp[Addr.add]
        rw[ha,Nat.sub_zero,Nat.sub_zero]
        cases hx with
        |ownOther _ _ a cap hl hk' hcap=>exact .preOther l n hh _ hl hk'
        |ownNil _ a hl hk'=>
          obtain rfl:hh=0:=by omega
          exact .preNil l a hl hk'
        |ownArr _ b sz' _ cap ccs ty hl hk' hh' hcap' hlen=>exact .preArr l b sz' n hh cap ccs ty hl hk' h1 hh' hcap' hlen
      · simp[Instr.sliceAt,ZF g1,Instr.slice,hrun,hse]
    · exact hk.elim
  · exact hk.elim
def RelO (B:Nat)(m:Map)(w:World)(ρ:Operand→AV)(ρc:Operand→Value):Prop:=∀x,Conc B (Av m) w m (ρ x) (ρc x)
theorem ZD0 {ρ : Operand → AV} {ρc : Operand → Value} (h : RelO B m w ρ ρc) (xs : Array Operand) :
    (xs.map ρc).size=(xs.toList.map ρ).length∧∀(i:Nat) (x:AV),(xs.toList.map ρ)[i]? =some x→Conc B (Av m) w m x ((xs.map ρc).getD i undef):=by
  refine⟨by simp,fun i x hi=> ?_⟩
  simp only[List.getElem?_map,Option.map_eq_some_iff]at hi
  obtain⟨o,ho,rfl⟩:=hi
  have ho':xs[i]? =some o:=by simpa using ho
  have:(xs.map ρc).getD i undef=ρc o:=by simp[Array.getD_eq_getD_getElem?,ho']
  rw[this];exact h o
theorem ZEf {ρ : Operand → AV} {ρc : Operand → Value} (h : RelO B m w ρ ρc) (xs : Array (Nat × Operand)) :
    (xs.toList.map fun p=>(p.1,ρ p.2)).length=(xs.map fun(i,x)=>(i,ρc x)).size∧
    ∀(i:Nat) p q,(xs.toList.map fun p=>(p.1,ρ p.2))[i]? =some p→(xs.map fun(i,x)=>(i,ρc x))[i]? =some q→p.1=q.1∧Conc B (Av m) w m p.2 q.2:=by
  refine⟨by simp,fun i p q hp hq=> ?_⟩
  simp only[List.getElem?_map,Option.map_eq_some_iff]at hp
  simp only[Array.getElem?_map,Option.map_eq_some_iff]at hq
  obtain⟨o,ho,rfl⟩:=hp
  obtain⟨o',ho',rfl⟩:=hq
  have:xs[i]? =some o:=by simpa using ho
  rw[this]at ho';obtain rfl:=Option.some.inj ho'
  exact⟨rfl,h _⟩
def GoodN (B:Nat)(m:Map)(w:World)(K:AV→ZA→Prop)(R:Result Next):Prop:=
  ∃nx u r σ' m' w',R=.ok nx w'∧(nx=.value u∨(nx=.skip∧u=undef))∧K r σ'∧Sim B m' σ' w'∧Conc B (Av m') w' m' r u∧Fr m w m' w'
theorem Good.toN {K K' : AV → ZA → Prop} {s : Sem Value} (h : Good B m w K (s.run P w)) (hK : ∀ r σ', K r σ' → K' r σ') :
    GoodN B m w K' ((do pure (.value (←s)):Sem Next).run P w):=by
  obtain⟨u,r,σ',m',w',hR,hk,h1,h2,h3⟩:=h
  exact⟨.value u,u,r,σ',m',w',by simp[hR],.inl rfl,hK _ _ hk,h1,h2,h3⟩
theorem GoodN.val (h:Sim B m σ w){K:AV→ZA→Prop}{r:AV}{u:Value}(hK:K r σ)(hc:Conc B (Av m) w m r u):GoodN B m w K (.ok (.value u) w):=
  ⟨_,u,r,σ,m,w,rfl,.inl rfl,hK,h,hc,Fr.refl m w⟩
theorem ZJh {xs:Array Operand}{ρ:Operand→AV}{x:AV}(h:xs.toList.map ρ=[x]):∃o,xs=#[o]∧ρ o=x:=by
  obtain⟨l⟩:=xs
  match l,h with
  | [o],h=>simp at h;exact⟨o,rfl,h⟩
theorem ZDv {xs:Array Operand}{ρ:Operand→AV}{x y:AV}(h:xs.toList.map ρ=[x,y]):∃o o',xs=#[o,o']∧ρ o=x∧ρ o'=y:=by
  obtain⟨l⟩:=xs
  match l,h with
  | [o,o'],h=>simp at h;exact⟨o,o',rfl,h.1,h.2⟩
theorem ZDT (h : Sim B m σ w) {b : Builtin} {ts : Array TypeId} {args : Array Operand} {ρ : Operand → AV} {ρc : Operand → Value} (hρ : RelO B m w ρ ρc) {K : AV → ZA → Prop}
    (hk:ZAh P B b ts σ (args.toList.map ρ) K) (ty:TypeId) (consts:Array Bool):GoodN B m w K ((builtin b ts ty consts (args.map ρc)).run P w):=by
  unfold ZAh at hk
  split at hk
  · next x hl=>
    obtain⟨o,rfl,rfl⟩:=ZJh hl
    split at hk
    · next t ht=>
      have:=ZHs (ty:=ty) h hk ht (hρ o)
      simpa[builtin]using this.toN (K':=K) (fun r s hh=>by obtain⟨h1,rfl⟩:=hh;exact h1)
    · exact hk.elim
  · next s x hl=>
    obtain⟨o,o',rfl,rfl,rfl⟩:=ZDv hl
    split at hk
    · next t t2 h1 h2=>
      have:=ZET (ty:=ty) h hk (hρ o) (hρ o')
      have e:(Builtin.append_ #[t,t2] ty #[ρc o,ρc o'])=(Builtin.append_ ts ty #[ρc o,ρc o']):=by
        unfold Builtin.append_;simp[h1,h2]
      rw[e]at this
      simpa[builtin]using this.toN (K':=K) (fun r s hh=>hh)
    · exact hk.elim
  · next k a k' b hl=>
    obtain⟨o,o',rfl,h1,h2⟩:=ZDv hl
    have e1:=hρ o;have e2:=hρ o'
    rw[h1]at e1;rw[h2]at e2
    have e1:=Conc.lit_inv e1;have e2:=Conc.lit_inv e2
    have:(builtin .min ts ty consts (#[o,o'].map ρc)).run P w=.ok (.value (.int k (if b<a then b else a))) w:=by
      simp[builtin,Builtin.min_,Builtin.min2,e1,e2]
    rw[this];exact GoodN.val h hk (.lit _)
  · next k a k' b hl=>
    obtain⟨o,o',rfl,h1,h2⟩:=ZDv hl
    have e1:=hρ o;have e2:=hρ o'
    rw[h1]at e1;rw[h2]at e2
    have e1:=Conc.lit_inv e1;have e2:=Conc.lit_inv e2
    have:(builtin .max ts ty consts (#[o,o'].map ρc)).run P w=.ok (.value (.int k (if b>a then b else a))) w:=by
      simp[builtin,Builtin.max_,Builtin.max2,e1,e2]
    rw[this];exact GoodN.val h hk (.lit _)
  · exact hk.elim
end
end Go.Vl
