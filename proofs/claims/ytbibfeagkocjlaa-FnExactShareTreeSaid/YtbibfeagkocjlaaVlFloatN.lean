/- The value-level layer: a call whose outcome is not known ahead, and behind it a new cell that may come at any place among effects in order. -/
import Derived.Test.YtbibfeagkocjlaaVlFloatP
import Derived.Test.YtbibfeagkocjlaaVlFork
set_option linter.all false
namespace Go.Vl
open Go Go.RowKit
section
variable {P : Program} {B nb N : Nat} {fs : List FuncId} {Q : Exit → Act → World → Prop}
structure FLN (fs:List FuncId)(P:Program)(B N:Nat)(ops:Array Oper)(es:List (Nat×Nat))(F xc:Nat)(fr0 frN:Frm)(infos:List Info)(Sg:Nat→ZA)(S:Nat)(K:ASt→Prop)(eF:Info)(dF:Nat)(vs:List Value):Prop where
  ok:FloatOk fs ops es F
  hd:ZAL fs (ZH es ops)=true
  hp:PlanX xc fs P B N (ZH es ops) fr0 infos Sg S
  hN:FrX (fun _=>True) fr0 infos frN
  hK:K ⟨frN,Sg S⟩
  hxw:∀(e:Info),infos[xc]? =some e→e.want=true
  hxe:∀(e:Info),infos[xc]? =some e→e.eff=true
  hxs:xc<ops.size
  hxF:xc≠F
  eff:∀(i:Nat) (e:Info),infos[i]? =some e→e.eff=ZI fs e.o.op
  heF:infos[F]? =some eF
  hef:eF.eff=true
  hw:eF.want=true
  hdF:eF.o.dst=some dF
  hjk:lk fr0 dF=.junk
  hV:eF.V=.ptr (Sg eF.rank).length 0
  hS1:Sg (eF.rank+1)=Sg eF.rank++[.cells (vs.map .lit)]
  hex:∀(o:Oper) (ρ:Operand→AV) (σ:ZA),ops[F]? =some o→OpEx P B o ρ σ (.ptr σ.length 0) (σ++[.cells (vs.map .lit)])
section
variable {ops : Array Oper} {es : List (Nat × Nat)} {F xc : Nat} {fr0 frN : Frm} {infos : List Info} {Sg : Nat → ZA} {S : Nat} {K : ASt → Prop} {eF : Info} {dF : Nat} {vs : List Value}
theorem FLN.ltF (b:FLN fs P B N ops es F xc fr0 frN infos Sg S K eF dF vs):F<ops.size:=by
  obtain⟨o,t,d,h,_⟩:=b.ok.at'
  exact(Array.getElem?_eq_some_iff.1 h).1
theorem FLN.other (b:FLN fs P B N ops es F xc fr0 frN infos Sg S K eF dF vs){i:Nat}(h:i≠F):(ZH es ops)[i]? =ops[i]? :=
  ZEO es fun e he q=>h (q.symm.trans (b.ok.edge e he).1)
theorem FLN.eff_lt (b:FLN fs P B N ops es F xc fr0 frN infos Sg S K eF dF vs){j:Nat}{f:Info}(hj:infos[j]? =some f)(hf:f.eff=true):f.rank<eF.rank↔j<F:=by
  constructor
  · intro h
    rcases Nat.lt_trichotomy j F with q|q|q
    · exact q
    · subst q;rw[b.heF]at hj;obtain rfl:=Option.some.inj hj;omega
    · have:=b.hp.mono F j eF f b.heF hj b.hef hf q;omega
  · intro h;exact b.hp.mono j F f eF hj b.heF hf b.hef h
theorem FLN.rest (b : FLN fs P B N ops es F xc fr0 frN infos Sg S K eF dF vs) {m0 : Map} {w0 : World} (hn : ∀ st' m' a' w', K st' → ASim B nb N m0 w0 st' m' a' w' → Q .normal a' w')
    {fuel:Nat} {listed:Array Bool} {fr fr':Frm} {m:Map} {a:Act} {w:World} (hsz:listed.size=ops.size) (hlX:listed.getD xc true=true) (hlF:listed.getD F true=false)
    (hcnt:((List.range ops.size).filter fun i=> !(listed.setIfInBounds F true).getD i true).length≤fuel)
    (hrdy:F∈Region.ready .any (ZH es ops) listed)
    (hcl:∀(i:Nat) (o:Oper),(ZH es ops)[i]? =some o→listed.getD i true=true→∀e∈o.after,Region.binds .any e=true→listed.getD e.on false=true)
    (hfr:FrX (fun j=>listed.getD j true=true) fr0 infos fr)
    (hst:∀(j:Nat) (e:Info),infos[j]? =some e→e.eff=true→(listed.getD j true=true↔e.rank<eF.rank))
    (hlk:∀t,lk fr' t=if eF.o.dst=some t then eF.V else lk fr t) (h:ASim B nb N m0 w0 ⟨fr',Sg (eF.rank+1)⟩ m a w):wpAny P .any ops Q fuel (listed.setIfInBounds F true) a w:=by
  obtain⟨_,o,ho,hall⟩:=mem_ready.1 hrdy
  obtain⟨hset,hcl'⟩:=ZAr ho (by rw[ZG];exact hsz) hcl hall
  have hl:=(ZW es).1 hrdy
  refine ZDU es (fun e he=> ?_) (ZCP b.hd b.hp b.hN b.hK hn b.hxw b.hxe fuel (listed.setIfInBounds F true) fr' (eF.rank+1) m a w (by simpa[ZG]using hsz) ?_ (by rw[ZG];exact hcnt) hcl'
    (ZBC b.hd b.hp.op b.heF hset hfr hlk) (b.hp.eff F eF b.heF b.hef).1 (fun j e hj he=> ?_) h)
  · exact getD_set_true (hl.2 e he (b.ok.edge e he).1.symm)
  · rw[hset];exact .inl hlX
  · rw[hset,hst j e hj he]
    constructor
    · rintro(q|rfl)
      · omega
      · rw[b.heF]at hj;obtain rfl:=Option.some.inj hj;omega
    · intro q
      rcases Nat.lt_or_ge e.rank eF.rank with q'|q'
      · exact .inl q'
      · right
        rcases Nat.lt_trichotomy j F with h'|h'|h'
        · have:=b.hp.mono j F e eF hj b.heF he b.hef h';omega
        · exact h'
        · have:=b.hp.mono F j eF e b.heF hj b.hef he h';omega
theorem FLN.hid (b : FLN fs P B N ops es F xc fr0 frN infos Sg S K eF dF vs) {m0 m1 mh : Map} {w0 wh : World} (hn : ∀ st' m' a' w', K st' → ASim B nb N m0 w0 st' m' a' w' → Q .normal a' w')
    {n bb nb':Nat} {ccs:Array Value} {ty:TypeId} (hH:Hid B nb N m0 w0 m1 mh wh n bb dF vs ccs ty):
    ∀(fuel:Nat) (listed:Array Bool) (fr:Frm) (s:Nat) (m:Map) (a:Act) (w:World),listed.size=ops.size→listed.getD xc true=true→listed.getD F true=false→
      ((List.range ops.size).filter fun i=> !(listed.setIfInBounds F true).getD i true).length≤fuel→ZA1 ops (listed.setIfInBounds F true)→F∈Region.ready .any ops listed→
      (∀(i:Nat) (o:Oper),(ZH es ops)[i]? =some o→listed.getD i true=true→∀e∈o.after,Region.binds .any e=true→listed.getD e.on false=true)→
      FrX (fun j=>listed.getD j true=true) fr0 infos fr→s<eF.rank→
      (∀(j:Nat) (e:Info),infos[j]? =some e→e.eff=true→(listed.getD j true=true↔e.rank<s))→
      a.tmps.getD dF undef=.pointer (some ⟨bb,0,none⟩)→ASim B nb' N mh wh ⟨fr,Sg s⟩ m a w→wpAny P .any ops Q fuel (listed.setIfInBounds F true) a w:=by
  intro fuel
  induction fuel with
  |zero=>
    intro listed fr s m a w hsz hlX hlF hcnt hc hrF hcl hfr hs hst htie h
    exfalso
    obtain⟨j,f,hj,hf,hrk⟩:=b.hp.ranks s (Nat.lt_trans hs (b.hp.eff F eF b.heF b.hef).1)
    have hjF:j<F:=(b.eff_lt hj hf).1 (by omega)
    have hnl:listed.getD j true=false:=by
      cases q:listed.getD j true with
      |false=>rfl
      |true=>have:=(hst j f hj hf).1 q;omega
    have:j∈(List.range ops.size).filter fun i=> !(listed.setIfInBounds F true).getD i true:=by
      rw[List.mem_filter]
      refine⟨by have:=b.ltF;simp;omega,?_⟩
      rw[ZV (by omega),hnl];rfl
    rw[List.eq_nil_of_length_eq_zero (Nat.le_zero.1 hcnt)]at this
    simp at this
  |succ fuel ih=>
    intro listed fr s m a w hsz hlX hlF hcnt hc hrF hcl hfr hs hst htie h
    obtain⟨j,f,hj,hf,hrk⟩:=b.hp.ranks s (Nat.lt_trans hs (b.hp.eff F eF b.heF b.hef).1)
    have hjF:j<F:=(b.eff_lt hj hf).1 (by omega)
    have hjs:j<ops.size:=Nat.lt_trans hjF b.ltF
    have hnl:listed.getD j true=false:=by
      cases q:listed.getD j true with
      |false=>rfl
      |true=>have:=(hst j f hj hf).1 q;omega
    refine⟨fun hr=> ?_,fun i hi=> ?_⟩
    · exfalso
      have all:∀i,i<F→listed.getD i true=true:=by
        intro i
        induction i using Nat.strongRecOn with
        |_ i ihi=>
          intro hiF
          cases hl:listed.getD i true with
          |true=>rfl
          |false=>
            have hin:i<ops.size:=Nat.lt_trans hiF b.ltF
            have:i∈Region.ready .any ops (listed.setIfInBounds F true):=mem_ready.2 ⟨by rw[ZV (by omega)];exact hl,ops[i],Array.getElem?_eq_getElem hin,fun e he hb=>by
              have hlt:=b.ok.low i _ (Array.getElem?_eq_getElem hin) e he hb
              rw[ZV (by omega),←Zp (by omega)]
              exact ihi e.on hlt (by omega)⟩
            rw[hr]at this;simp at this
      rw[all j hjF]at hnl;cases hnl
    · obtain⟨h0,o,ho,hall⟩:=mem_ready.1 hi
      have hin:i<ops.size:=(Array.getElem?_eq_some_iff.1 ho).1
      have hiF:i≠F:=by
        rintro rfl
        simp[hsz,hin]at h0
      have hilt:i<F:=by
        rcases Nat.lt_or_ge i F with q|q
        · exact q
        · exfalso
          have hjo:=b.hp.op j f hj
          rw[b.other (by omega)]at hjo
          have:=ZBu hc ops.size i o ho hall ((b.ok.cov j f.o hjo (by rw[←b.eff j f hj];exact hf) hjF).2 i o ho (by omega))
          rw[ZV (by omega),←Zp (by omega),hnl]at this
          cases this
      have h0':listed.getD i true=false:=by rwa[ZV (by omega)]at h0
      have hNL:=h0'
      have hall':∀e∈o.after,Region.binds .any e=true→listed.getD e.on false=true:=fun e he hb=>by
        have:=hall e he hb
        have hlt:=b.ok.low i o ho e he hb
        rwa[ZV (by omega)]at this
      have hi1:i∈Region.ready .any ops listed:=mem_ready.2 ⟨h0',o,ho,hall'⟩
      have hi2:i∈Region.ready .any (ZH es ops) listed:=(ZW es).2 ⟨hi1,fun e he q=>absurd (q.trans (b.ok.edge e he).1) hiF⟩
      have hoo:(ZH es ops)[i]? =some o:=(b.other hiF).trans ho
      obtain⟨hset,hcl'⟩:=ZAr hoo (by rw[ZG];exact hsz) hcl hall'
      have hcomm:(listed.setIfInBounds F true).setIfInBounds i true=(listed.setIfInBounds i true).setIfInBounds F true:=Array.setIfInBounds_comm _ _ (Ne.symm hiF)
      have hcnt':=ZBD hin h0 (ZAr ho (by simpa using hsz) (fun i o ho hl e he hb=>hc i o ho (by rw[←Zp (by have:=(Array.getElem?_eq_some_iff.1 ho).1;simp;omega)];exact hl) e he hb) hall).1 hcnt
      have hcl2:=ZAD hc hi
      rw[hcomm]at hcnt' hcl2 ⊢
      refine(ZAE es).1 ?_
      refine ZGY (K:=fun a' w'=>a'.tmps.getD dF undef=.pointer (some ⟨bb,0,none⟩)→wpAny P .any ops Q fuel ((listed.setIfInBounds i true).setIfInBounds F true) a' w') (fun a' w' ht hk=>hk ?_) ?_
      · rw[ht dF ?_];exact htie
        rw[hoo]
        have:=(ZO b.hd (b.hp.op F eF b.heF) hoo).2 (Ne.symm hiF)
        exact this.1 dF b.hdF
      refine Zz b.hd b.hp (by rw[ZG];exact hsz) hcl hfr (Nat.le_of_lt (Nat.lt_trans hs (b.hp.eff F eF b.heF b.hef).1)) hst h hi2 (fun e he hix=>by subst hix;rw[hlX]at hNL;cases hNL) (fun e he _ fr' s' m' a' w' q1 q2 _ q3 q4 htie'=> ?_) b.hxw b.hxe
      have hst':∀(j:Nat) (e:Info),infos[j]? =some e→e.eff=true→((listed.setIfInBounds i true).getD j true=true↔e.rank<s'):=fun j f hj hf=>by rw[hset];exact q3 j f hj hf
      have hfr':=ZBC b.hd b.hp.op he hset hfr q1
      have hlX':(listed.setIfInBounds i true).getD xc true=true:=(hset xc).2 (.inl hlX)
      have hlF':(listed.setIfInBounds i true).getD F true=false:=by rw[ZV (by omega)];exact hlF
      have hsF:s'≤eF.rank:=by
        rcases Nat.lt_or_ge eF.rank s' with q|q
        · have:=(hst' F eF b.heF b.hef).2 q;rw[hlF']at this;cases this
        · exact q
      have hrF':F∈Region.ready .any ops (listed.setIfInBounds i true):=by
        obtain⟨_,oF,hoF,haF⟩:=mem_ready.1 hrF
        exact mem_ready.2 ⟨hlF',oF,hoF,fun e he hb=>getD_set_true (haF e he hb)⟩
      rcases Nat.lt_or_ge s' eF.rank with hlt|hge
      · exact ih (listed.setIfInBounds i true) fr' s' m' a' w' (by simpa using hsz) hlX' hlF' hcnt' hcl2 hrF' hcl' hfr' hlt hst' htie' q4
      · obtain rfl:s'=eF.rank:=by omega
        have hlk:∀t,lk ((dF,eF.V)::fr') t=if some dF=some t then .ptr (Sg eF.rank).length 0 else lk fr' t:=fun t=>by
          rw[b.hV]
          by_cases q:dF=t
          · subst q;simp[lk]
          · simp[lk,q]
        obtain⟨m2,hm2⟩:=ZKY (fr':=(dF,eF.V)::fr') hH q4 htie' hlk
        rw[←b.hS1]at hm2
        refine b.rest hn (by simpa using hsz) hlX' hlF' hcnt' ((ZW es).2 ⟨hrF',fun e he _=> ?_⟩) hcl' hfr' hst' (fun t=> ?_) hm2
        · obtain⟨_,h2,o2,ho2,he2⟩:=b.ok.edge e he
          have hlt2:e.1<infos.length:=by rw[b.hp.len,ZG];exact(Array.getElem?_eq_some_iff.1 ho2).1
          have hfo:=b.hp.op e.1 _ (List.getElem?_eq_getElem hlt2)
          rw[b.other (by omega),ho2]at hfo
          have hff:infos[e.1].eff=true:=by rw[b.eff _ _ (List.getElem?_eq_getElem hlt2),←Option.some.inj hfo];exact he2
          rw[←Zp (by have:=(Array.getElem?_eq_some_iff.1 ho2).1;simp;omega)]
          exact(hst' e.1 _ (List.getElem?_eq_getElem hlt2) hff).2 ((b.eff_lt (List.getElem?_eq_getElem hlt2) hff).2 h2)
        · rw[hlk,b.hV,b.hdF]
theorem FLN.run (b : FLN fs P B N ops es F xc fr0 frN infos Sg S K eF dF vs) {m0 : Map} {w0 : World} (hn : ∀ st' m' a' w', K st' → ASim B nb N m0 w0 st' m' a' w' → Q .normal a' w') :
    ∀(fuel:Nat) (listed:Array Bool) (fr:Frm) (s:Nat) (m:Map) (a:Act) (w:World),listed.size=ops.size→listed.getD xc true=true→listed.getD F true=false→
      ((List.range ops.size).filter fun i=> !listed.getD i true).length≤fuel→ZA1 ops listed→
      (∀(i:Nat) (o:Oper),(ZH es ops)[i]? =some o→listed.getD i true=true→∀e∈o.after,Region.binds .any e=true→listed.getD e.on false=true)→
      FrX (fun j=>listed.getD j true=true) fr0 infos fr→s≤S→
      (∀(j:Nat) (e:Info),infos[j]? =some e→e.eff=true→(listed.getD j true=true↔e.rank<s))→
      ASim B nb N m0 w0 ⟨fr,Sg s⟩ m a w→wpAny P .any ops Q fuel listed a w:=by
  intro fuel
  induction fuel with
  |zero=>
    intro listed fr s m a w hsz hlX hlF hcnt hc hcl hfr hs hst h
    exfalso
    have:F∈(List.range ops.size).filter fun i=> !listed.getD i true:=by
      rw[List.mem_filter]
      exact⟨by have:=b.ltF;simpa using this,by rw[hlF];rfl⟩
    rw[List.eq_nil_of_length_eq_zero (Nat.le_zero.1 hcnt)]at this
    simp at this
  |succ fuel ih=>
    intro listed fr s m a w hsz hlX hlF hcnt hc hcl hfr hs hst h
    refine⟨fun hr=> ?_,fun i hi=> ?_⟩
    · exfalso
      have all:∀i,i≤F→listed.getD i true=true:=by
        intro i
        induction i using Nat.strongRecOn with
        |_ i ihi=>
          intro hiF
          cases hl:listed.getD i true with
          |true=>rfl
          |false=>
            have hin:i<ops.size:=Nat.lt_of_le_of_lt hiF b.ltF
            have:i∈Region.ready .any ops listed:=mem_ready.2 ⟨hl,ops[i],Array.getElem?_eq_getElem hin,fun e he hb=>by
              have hlt:=b.ok.low i _ (Array.getElem?_eq_getElem hin) e he hb
              rw[←Zp (by omega)]
              exact ihi e.on hlt (by omega)⟩
            rw[hr]at this;simp at this
      rw[all F (Nat.le_refl _)]at hlF;cases hlF
    · obtain⟨h0,o,ho,hall⟩:=mem_ready.1 hi
      have hNL:=h0
      have hin:i<ops.size:=(Array.getElem?_eq_some_iff.1 ho).1
      have hcl2:=ZAD hc hi
      have hcnt':=ZBD hin h0 (ZAr ho hsz (fun i o ho hl e he hb=>hc i o ho (by rw[←Zp (by have:=(Array.getElem?_eq_some_iff.1 ho).1;omega)];exact hl) e he hb) hall).1 hcnt
      by_cases hiF:i=F
      · subst hiF
        by_cases hes:∀e,e∈es→listed.getD e.1 false=true
        · have hi2:i∈Region.ready .any (ZH es ops) listed:=(ZW es).2 ⟨hi,fun e he _=>hes e he⟩
          refine(ZAE es).1 ?_
          refine Zz b.hd b.hp (by rw[ZG];exact hsz) hcl hfr hs hst h hi2 (fun e he hix=>by subst hix;rw[hlX]at hNL;cases hNL) (fun e he _ fr' s' m' a' w' q1 q2 q5 q3 q4=> ?_) b.hxw b.hxe
          rw[b.heF]at he;obtain rfl:=Option.some.inj he
          rw[if_pos b.hef]at q5
          subst q5
          refine b.rest hn hsz hlX hlF hcnt' hi2 hcl hfr (fun j f hj hf=> ?_) q1 q4
          have:=q3 j f hj hf
          constructor
          · intro q
            have:=this.1 (.inl q)
            rcases Nat.lt_or_ge f.rank eF.rank with q'|q'
            · exact q'
            · exfalso
              rcases Nat.lt_trichotomy j i with h'|h'|h'
              · have:=(b.eff_lt hj hf).2 h';omega
              · subst h';rw[hlF]at q;cases q
              · have:=b.hp.mono i j eF f b.heF hj b.hef hf h';omega
          · intro q
            rcases this.2 (by omega)with q'|q'
            · exact q'
            · subst q';rw[b.heF]at hj;obtain rfl:=Option.some.inj hj;omega
        · have hsr:s<eF.rank:=by
            obtain⟨e,he,hne⟩:∃e,e∈es∧¬listed.getD e.1 false=true:=Classical.byContradiction fun q=>hes fun e he=>Classical.byContradiction fun q'=>q ⟨e,he,q'⟩
            obtain⟨_,h2,o2,ho2,he2⟩:=b.ok.edge e he
            have hlt2:e.1<infos.length:=by rw[b.hp.len,ZG];exact(Array.getElem?_eq_some_iff.1 ho2).1
            have hfo:=b.hp.op e.1 _ (List.getElem?_eq_getElem hlt2)
            rw[b.other (by omega),ho2]at hfo
            have hff:infos[e.1].eff=true:=by rw[b.eff _ _ (List.getElem?_eq_getElem hlt2),←Option.some.inj hfo];exact he2
            have hr2:=(b.eff_lt (List.getElem?_eq_getElem hlt2) hff).2 h2
            rcases Nat.lt_or_ge infos[e.1].rank s with q|q
            · exfalso
              have:=(hst e.1 _ (List.getElem?_eq_getElem hlt2) hff).2 q
              rw[Zp (by have:=(Array.getElem?_eq_some_iff.1 ho2).1;omega)]at this
              exact hne this
            · omega
          obtain⟨oF,t,d,k1,k2,k3,k4⟩:=b.ok.at'
          rw[ho]at k1;obtain rfl:=Option.some.inj k1
          have hdd:o.dst=some dF:=by
            obtain⟨g,g1,g2⟩:=Zc es i ops
            have:=b.hp.op i eF b.heF
            rw[g2,ho]at this
            have e1:g o=eF.o:=Option.some.inj this
            rw[←(g1 o).2.1,e1];exact b.hdF
          have hnd:∀d,o.dst=some d→d<N:=fun d hd=>b.hp.dst i eF d b.heF (by rw[b.hdF,←hdd];exact hd)
          unfold wpOp
          rw[ho]
          simp only
          have hwant:Region.wanted o (yielded ops a.tmps)=true:=by unfold Region.wanted;rw[k3]
          rw[if_pos hwant]
          left
          refine OpEx.wp (b.hex o (ev fr) (Sg s) ho) h hnd fun fr' m' a' w' q1 q2=> ?_
          simp only at q1 q2
          have hj0:lk fr dF=.junk:=by
            rw[(hfr dF).2 (fun j f hj hl hdj=> ?_)]
            · exact b.hjk
            · by_cases q:j=i
              · subst q;have hl2:listed.getD j true=true:=hl;rw[hlF]at hl2;cases hl2
              · exact((ZO b.hd (b.hp.op j f hj) (b.hp.op i eF b.heF)).2 q).1 dF hdj b.hdF
          obtain⟨bb,ccs,ty,hH,htie,hsim⟩:=hide h q2 (d:=dF) (fun t=>by rw[q1,hdd]) hj0
          exact b.hid hn hH fuel listed fr s _ a' w' hsz hlX hlF hcnt' hcl2 hi hcl hfr hsr hst htie hsim
      · have hi2:i∈Region.ready .any (ZH es ops) listed:=(ZW es).2 ⟨hi,fun e he q=>absurd (q.trans (b.ok.edge e he).1) hiF⟩
        have hoo:(ZH es ops)[i]? =some o:=(b.other hiF).trans ho
        obtain⟨hset,hcl'⟩:=ZAr hoo (by rw[ZG];exact hsz) hcl hall
        refine(ZAE es).1 ?_
        refine Zz b.hd b.hp (by rw[ZG];exact hsz) hcl hfr hs hst h hi2 (fun e he hix=>by subst hix;rw[hlX]at hNL;cases hNL) (fun e he _ fr' s' m' a' w' q1 q2 _ q3 q4=> ?_) b.hxw b.hxe
        exact ih (listed.setIfInBounds i true) fr' s' m' a' w' (by simpa using hsz) ((hset xc).2 (.inl hlX)) (by rw[ZV hiF];exact hlF) hcnt' hcl2 hcl' (ZBC b.hd b.hp.op he hset hfr q1) q2 (fun j f hj hf=>by rw[hset];exact q3 j f hj hf) q4
end
section
variable {ops : Array Oper} {es : List (Nat × Nat)} {F xc : Nat} {fr0 : Frm} {σ0 : ZA} {K : ASt → Prop}
theorem NB.fln (b : NB fs P B nb N (ZH es ops) xc fr0 σ0 K) (hok : FloatOk fs ops es F) (hxF : xc ≠ F) (hjk : ∀ d, (ops[F]?).bind (fun o : Oper => o.dst) = some d → lk fr0 d = .junk)
    (hnz:∀t i,(ops[F]?).map (fun o:Oper=>o.op)=some (.alloc t)→Zl P t=some i→ZAf t i.zero=.cells (i.zero.map .lit)):
    ∃dF vs,∀y,∃eF,FLN fs P B N ops es F xc fr0 (b.frN y) (b.infos y) (b.Sg y) b.S K eF dF vs:=by
  obtain⟨oF,t,d,k1,k2,k3,k4⟩:=hok.at'
  have hFs:F<ops.size:=(Array.getElem?_eq_some_iff.1 k1).1
  obtain⟨g,g1,g2⟩:=Zc es F ops
  have key:∀y,∃eF,(b.infos y)[F]? =some eF∧eF.o.op=.alloc t∧eF.o.dst=some d∧eF.eff=true∧eF.want=true∧OpEx P B eF.o (ev eF.fr) (b.Sg y eF.rank) eF.V (b.Sg y (eF.rank+1)):=by
    intro y
    have hFl:F<(b.infos y).length:=by rw[(b.hp y).len,ZG];exact hFs
    have heF:=List.getElem?_eq_getElem hFl
    have hoF:g oF=(b.infos y)[F].o:=by
      have:=(b.hp y).op F _ heF
      rw[g2,k1]at this;exact Option.some.inj this
    have hop:(b.infos y)[F].o.op=.alloc t:=by rw[←hoF,(g1 oF).1];exact k2
    have hgd:(b.infos y)[F].o.guard=none:=by rw[←hoF,(g1 oF).2.2];exact k3
    have hdd:(b.infos y)[F].o.dst=some d:=by rw[←hoF,(g1 oF).2.1];exact k4
    have hef:(b.infos y)[F].eff=true:=by rw[b.heff y F _ heF,hop];rfl
    have hw:(b.infos y)[F].want=true:=by have:=(b.hp y).guard F _ heF;rw[hgd]at this;exact this
    have hx3:=((b.hp y).eff F _ heF hef).2.2 (Ne.symm hxF)
    rw[if_pos hw]at hx3
    exact⟨_,heF,hop,hdd,hef,hw,hx3⟩
  cases hti:Zl P t with
  |none=>
    obtain⟨eF,_,q2,_,_,_,q6⟩:=key b.x0
    unfold OpEx at q6
    rw[q2]at q6
    simp only[aef,hti]at q6
  |some i=>
    have hnz:=hnz t i (by rw[k1];exact congrArg some k2) hti
    refine⟨d,i.zero,fun y=> ?_⟩
    obtain⟨eF,heF,q2,q3,q4,q5,q6⟩:=key y
    unfold OpEx at q6
    rw[q2]at q6
    simp only[aef,hti]at q6
    obtain⟨hz,e1,e2⟩:=q6
    rw[hnz]at e2
    exact⟨eF,hok,b.hd,b.hp y,b.hN y,b.hK y,b.hxw y,b.hxe y,by have:=b.hxs;rwa[ZG]at this,hxF,b.heff y,heF,q4,q5,q3,hjk d (by rw[k1];exact k4),e1.symm,e2.symm,fun o ρ σ ho=>by
      rw[k1]at ho;obtain rfl:=Option.some.inj ho
      unfold OpEx
      rw[k2]
      simp[aef,hti,hz,hnz]⟩
theorem ZGJ (b : NB fs P B nb N (ZH es ops) xc fr0 σ0 K) {dF : Nat} {vs : List Value} (hF : ∀ y, ∃ eF, FLN fs P B N ops es F xc fr0 (b.frN y) (b.infos y) (b.Sg y) b.S K eF dF vs) (hok : FloatOk fs ops es F) (hxF : xc ≠ F)
    (hwF:waitB ops xc ops.size F=true) {m0:Map} {w0:World} (hn:∀st' m' a' w',K st'→ASim B nb N m0 w0 st' m' a' w'→Q .normal a' w'):
    ∀(fuel:Nat) (listed:Array Bool) (fr:Frm) (s:Nat) (σ:ZA) (m:Map) (a:Act) (w:World),listed.size=ops.size→listed.getD xc true=false→listed.getD F true=false→
      ((List.range ops.size).filter fun i=> !listed.getD i true).length≤fuel→ZA1 ops listed→
      (∀(i:Nat) (o:Oper),(ZH es ops)[i]? =some o→listed.getD i true=true→∀e∈o.after,Region.binds .any e=true→listed.getD e.on false=true)→
      (∀x,FrX (fun j=>listed.getD j true=true) fr0 (b.infos x) fr)→s≤b.S→
      (∀x (j:Nat) (e:Info),(b.infos x)[j]? =some e→e.eff=true→(listed.getD j true=true↔e.rank<s))→(∀x,b.Sg x s=σ)→
      ASim B nb N m0 w0 ⟨fr,σ⟩ m a w→wpAny P .any ops Q fuel listed a w:=by
  have hszA:(ZH es ops).size=ops.size:=ZG es ops
  have hxs:xc<ops.size:=by have:=b.hxs;rwa[hszA]at this
  have hlow:∀(i:Nat) (o:Oper),(ZH es ops)[i]? =some o→∀e∈o.after,Region.binds .any e=true→e.on<i:=fun i o ho=>(ZO b.hd ho ho).1
  have inB:∀{listed:Array Bool},listed.size=ops.size→∀{i:Nat},i<ops.size→∀b:Bool,listed.getD i true=listed.getD i b:=by
    intro listed hs i hi b
    have:i<listed.size:=by rw[hs];exact hi
    simp[this]
  have hxo:(ZH es ops)[xc]? =some ((ZH es ops)[xc]'(by rw[hszA];exact hxs)):=Array.getElem?_eq_getElem (by rw[hszA];exact hxs)
  have hinfo:∀x,∃e,(b.infos x)[xc]? =some e:=fun x=>⟨(b.infos x)[xc]'(by rw[(b.hp x).len,hszA];exact hxs),List.getElem?_eq_getElem (by rw[(b.hp x).len,hszA];exact hxs)⟩
  intro fuel
  induction fuel with
  |zero=>
    intro listed fr s σ m a w hsz hxl hlF hcnt hc hcl hfr hsS hst hσ h
    exfalso
    have:xc∈(List.range ops.size).filter fun i=> !listed.getD i true:=by
      rw[List.mem_filter];exact⟨by simpa using hxs,by rw[hxl];rfl⟩
    rw[List.eq_nil_of_length_eq_zero (Nat.le_zero.1 hcnt)]at this
    simp at this
  |succ fuel ih=>
    intro listed fr s σ m a w hsz hxl hlF hcnt hc hcl hfr hsS hst hσ h
    refine⟨fun hr=> ?_,fun i hi=> ?_⟩
    · exfalso
      have all:∀i,i≤xc→listed.getD i true=true:=by
        intro i
        induction i using Nat.strongRecOn with
        |_ i ihi=>
          intro hix
          cases hl:listed.getD i true with
          |true=>rfl
          |false=>
            have hin:i<ops.size:=Nat.lt_of_le_of_lt hix hxs
            have:i∈Region.ready .any ops listed:=mem_ready.2 ⟨hl,ops[i],Array.getElem?_eq_getElem hin,fun e he hb=>by
              have hlt:=hok.low i _ (Array.getElem?_eq_getElem hin) e he hb
              rw[←Zp (by omega)]
              exact ihi e.on hlt (by omega)⟩
            rw[hr]at this;simp at this
      rw[all xc (Nat.le_refl _)]at hxl;cases hxl
    obtain⟨h0,o,ho0,hall⟩:=mem_ready.1 hi
    have hin:i<ops.size:=(Array.getElem?_eq_some_iff.1 ho0).1
    have hiF:i≠F:=by
      rintro rfl
      have:=ZBu hc ops.size i o ho0 hall hwF
      rw[←inB hsz hxs false,hxl]at this;cases this
    have hi2:i∈Region.ready .any (ZH es ops) listed:=(ZW es).2 ⟨hi,fun e he q=>absurd (q.trans (hok.edge e he).1) hiF⟩
    have ho:(ZH es ops)[i]? =some o:=(ZEO es fun e he q=>hiF (q.symm.trans (hok.edge e he).1)).trans ho0
    obtain⟨hset,hcl'⟩:=ZAr ho (by rw[hszA];exact hsz) hcl hall
    have hcl2:=ZAD hc hi
    have hcnt':=ZBD hin h0 hset hcnt
    refine(ZAE es).1 ?_
    refine Zz b.hd (b.hp b.x0) (by rw[hszA];exact hsz) hcl (hfr b.x0) hsS (hst b.x0) (by rw[hσ];exact h) hi2 ?_ ?_ (b.hxw b.x0) (b.hxe b.x0)
    · intro e he hix hw hef hs hrho
      subst hix
      have hrc:=b.hxr b.x0 e he
      rw[hrc]at hs
      subst hs
      refine b.hcall m0 w0 Q b.x0 e he fr m a w _ (by rw[hσ];exact h) hrho fun y f hf fr' m' a' w' hlk h'=> ?_
      have heo:f.o=e.o:=by
        have q1:=(b.hp b.x0).op i e he
        have q2:=(b.hp y).op i f hf
        rw[q1]at q2;exact(Option.some.inj q2).symm
      have hrS:=((b.hp b.x0).eff i e he hef).1
      obtain⟨eF,bF⟩:=hF y
      refine bF.run hn fuel (listed.setIfInBounds i true) fr' (b.rc+1) m' a' w' (by simpa using hsz) ((hset i).2 (.inr rfl)) (by rw[ZV hiF];exact hlF) hcnt' hcl2 hcl' ?_ (by omega) ?_ h'
      · exact ZBC b.hd (b.hp y).op hf hset (hfr y) (by rw[heo];exact hlk)
      · intro j g hj hg
        rw[hset]
        have hfr2:=b.hxr y f hf
        constructor
        · rintro(hl|rfl)
          · have:=(hst y j g hj hg).1 hl;omega
          · rw[hf]at hj;obtain rfl:=Option.some.inj hj;omega
        · intro hlt
          rcases Nat.lt_or_ge g.rank b.rc with h'|h'
          · exact .inl ((hst y j g hj hg).2 h')
          · right
            rcases Nat.lt_trichotomy j i with h''|h''|h''
            · have:=(b.hp y).mono j i g f hj hf hg (b.hxe y f hf) h'';omega
            · exact h''
            · have:=(b.hp y).mono i j f g hf hj (b.hxe y f hf) hg h'';omega
    · intro e he hnx fr' s' m' a' w' q1 q2 qs q3 q4
      have hne:i≠xc:=by
        rintro rfl
        rcases hnx with hnx|hnx
        · exact hnx rfl
        · rw[b.hxw b.x0 e he]at hnx;cases hnx
      have hnr:ZY (ZH es ops) i xc=false:=by
        cases hr:ZY (ZH es ops) i xc with
        |false=>rfl
        |true=>
          obtain⟨ed,hed,hb,hj⟩:=ZAn hlow ho hr
          have h1:=hall ed hed hb
          have:listed.getD xc false=true:=by
            rcases hj with rfl|hj
            · exact h1
            · have hlt:=hlow i o ho ed hed hb
              have heo:(ZH es ops)[ed.on]? =some ((ZH es ops)[ed.on]'(by rw[hszA];omega)):=Array.getElem?_eq_getElem (by rw[hszA];omega)
              exact ZX hlow (by rw[hszA];exact hsz) hcl (ed.on+1) ed.on xc _ (by omega) heo (by rw[inB hsz (by omega) false];exact h1) hj
          rw[←inB hsz hxs false,hxl]at this;cases this
      have hs':s'≤b.rc:=by
        obtain⟨f,hf⟩:=hinfo b.x0
        have hfr:=b.hxr b.x0 f hf
        have:=(q3 xc f hf (b.hxe b.x0 f hf))
        apply Classical.byContradiction
        intro hlt
        have:=this.2 (by omega)
        rcases this with q|q
        · rw[hxl]at q;cases q
        · exact hne q.symm
      have same:∀x,∃f,(b.infos x)[i]? =some f∧f.V=e.V∧f.eff=e.eff∧f.rank=e.rank∧f.o=e.o:=by
        intro x
        have hlx:i<(b.infos x).length:=by rw[(b.hp x).len,hszA];exact hin
        refine⟨(b.infos x)[i],List.getElem?_eq_getElem hlx,?_⟩
        obtain⟨c1,c2,c3⟩:=b.hag x b.x0 i _ e (List.getElem?_eq_getElem hlx) he hne hnr
        refine⟨c1,c2,c3,?_⟩
        have r1:=(b.hp b.x0).op i e he
        have r2:=(b.hp x).op i _ (List.getElem?_eq_getElem hlx)
        rw[r1]at r2;exact(Option.some.inj r2).symm
      refine ih (listed.setIfInBounds i true) fr' s' (b.Sg b.x0 s') m' a' w' (by simpa using hsz) ?_ (by rw[ZV hiF];exact hlF) hcnt' hcl2 hcl' ?_ q2 ?_ (fun x=>b.hSg x b.x0 s' hs') q4
      · rw[ZV hne];exact hxl
      · intro x
        obtain⟨f,hf,c1,c2,c3,c4⟩:=same x
        exact ZBC b.hd (b.hp x).op hf hset (hfr x) (by rw[c1,c4];exact q1)
      · intro x j g hj hg
        rw[hset]
        obtain⟨f,hf,c1,c2,c3,c4⟩:=same x
        have hx:=hst x
        cases hee:e.eff with
        |false=>
          rw[hee]at qs
          simp only[Bool.false_eq_true,if_false]at qs
          subst qs
          rw[←hx j g hj hg]
          refine⟨fun q=>q.elim id fun q=> ?_,.inl⟩
          subst q;rw[hf]at hj;obtain rfl:=Option.some.inj hj;rw[c2,hee]at hg;cases hg
        |true=>
          rw[hee]at qs
          simp only[if_true]at qs
          have hes:s=e.rank:=by
            have h1:s≤e.rank:=by
              apply Classical.byContradiction
              intro hlt
              have:=(hst b.x0 i e he hee).2 (by omega)
              rw[h0]at this;cases this
            have h2:=(q3 i e he hee).1 (.inr rfl)
            rcases Nat.lt_or_ge s e.rank with hlt|hge
            · obtain⟨j',f',hj',hf',hrk⟩:=(b.hp b.x0).ranks s (by omega)
              have hn1:¬listed.getD j' true=true:=fun q=>by have:=(hst b.x0 j' f' hj' hf').1 q;omega
              have:=(q3 j' f' hj' hf').2 (by omega)
              rcases this with q|q
              · exact absurd q hn1
              · subst q;rw[he]at hj';obtain rfl:=Option.some.inj hj';omega
            · omega
          constructor
          · rintro(hl|rfl)
            · have:=(hx j g hj hg).1 hl;omega
            · rw[hf]at hj;obtain rfl:=Option.some.inj hj;omega
          · intro hlt
            rcases Nat.lt_or_ge g.rank e.rank with h'|h'
            · exact .inl ((hx j g hj hg).2 (by omega))
            · right
              have hfe:f.eff=true:=by rw[c2];exact hee
              rcases Nat.lt_trichotomy j i with h''|h''|h''
              · have:=(b.hp x).mono j i g f hj hf hg hfe h'';omega
              · exact h''
              · have:=(b.hp x).mono i j f g hf hj hfe hg h'';omega
end
theorem ADraw.effNLP {ops : Array Oper} {fr : Frm} {σ : ZA} {K : ASt → Prop} {b' : Box K} (es0 : List (Nat × Nat)) (ord : List Nat) (es : List (Nat × Nat)) (F j0 : Nat) (fs : List FuncId) (tab : List (Nat × Nat)) (xs : List Nat) (xc : Nat) (hlt : xc < ops.size)
    (hm:P.follows .mixedOrders=true) (hp:ZD6 ord ops.size=true)
    (hd:ZAL fs (ZH es (Za ord (ZH es0 ops)))=true) (ht:ZHv fs (ZH es (Za ord (ZH es0 ops))) tab=true) (hx:ZA7 fs (ZH es (Za ord (ZH es0 ops))) tab (xs.map (· ==1))=true)
    (hlat:ZDh (ZH es (Za ord (ZH es0 ops))) xc=true) (hfl:ZGr fs (Za ord (ZH es0 ops)) es F=true) (hwF:(xc !=F&& waitB (Za ord (ZH es0 ops)) xc ops.size F)=true)
    (hoe:ZI fs ((ZAH ord ops.toList).getD xc ZA9).op=true) (hog:((ZAH ord ops.toList).getD xc ZA9).guard=none)
    (hF:ord.idxOf j0=F) (hjk:∀d,(ops[j0]?).bind (fun o:Oper=>o.dst)=some d→lk fr d=.junk)
    (hnz:∀t i,(ops[j0]?).map (fun o:Oper=>o.op)=some (.alloc t)→Zl P t=some i→ZAf t i.zero=.cells (i.zero.map .lit))
    (h:∀L,ZAH ord ops.toList=L→aLg fs P B N (hold ops .mk) (hold (L.take xc) .mk) xs tab fr [σ] [] [] (hold (fun xs1 ts1 fr1 ss1 ps1 ls1=>NCallO P B (L.getD xc ZA9).op (ev fr1) (ss1.headD []) (hold (fun r σ'=>ZBV N (L.getD xc ZA9).dst (hold (aL fs P B N (hold ops .mk) (hold (L.drop (xc+1)) .mk) xs1.tail ts1.tail (Zh (L.getD xc ZA9).dst r fr1) (σ'::ss1) ps1 ls1 (hold (fun fr' σ'=>K ⟨fr',σ'⟩) .mk)) .mk)) .mk)) .mk)):ADraw P B nb N (ZH es0 ops) ⟨fr,σ⟩ (hold K b'):=by
  have h:=h _ rfl
  have hp':ZD6 ord (ZH es0 ops).size=true:=by rw[ZG];exact hp
  have hk:=PermOk.of hp'
  have hkl:ord.length=ops.size:=by have:=hk.len;rwa[ZG]at this
  refine ADraw.perm ord hp' ?_
  obtain⟨same0,len0⟩:=ZH7 (ops:=ops) (ops0:=ops) (L:=ops.toList) (by simp) (fun i o o' ho ho'=>by
    rw[Array.getElem?_toList,ho']at ho
    obtain rfl:=Option.some.inj ho
    refine⟨rfl,rfl,?_⟩
    cases hg:o'.guard with
    |none=>exact .inl ⟨rfl,rfl⟩
    |some p=>obtain⟨j,w⟩:=p;exact .inr ⟨j,j,w,rfl,rfl,rfl⟩) es0 ord hp
  have hsz0:(Za ord (ZH es0 ops)).size=ops.size:=by rw[ZAp,hkl]
  have hdst:∀j,((Za ord (ZH es0 ops))[ord.idxOf j]?).bind (·.dst)=(ops[j]?).bind (·.dst):=by
    intro j
    rw[ZB3 hk]
    obtain⟨g,h1,h2⟩:=Zc es0 j ops
    rw[h2]
    cases ops[j]? with
    |none=>rfl
    |some o=>exact(h1 o).2.1
  have hop:∀j,((Za ord (ZH es0 ops))[ord.idxOf j]?).map (fun o:Oper=>o.op)=(ops[j]?).map (fun o:Oper=>o.op):=by
    intro j
    rw[ZB2 hk]
    obtain⟨g,h1,h2⟩:=Zc es0 j ops
    rw[h2]
    cases ops[j]? with
    |none=>rfl
    |some o=>exact congrArg some (h1 o).1
  have hll:(ZAH ord ops.toList).length=ops.size:=by simp[ZAH,hkl]
  rw[Bool.and_eq_true,bne_iff_ne]at hwF
  obtain⟨hxF,hwF⟩:=hwF
  generalize hO:Za ord (ZH es0 ops)=O at*
  have hdA:∀j:Nat,((ZH es O)[j]?).bind (·.dst)=(O[j]?).bind (·.dst):=by
    intro j
    obtain⟨g,h1,h2⟩:=Zc es j O
    rw[h2]
    cases O[j]? with
    |none=>rfl
    |some o=>exact(h1 o).2.1
  have sameA:∀(i:Nat) (o o':Oper),(ZAH ord ops.toList)[i]? =some o→(ZH es O).toList[i]? =some o'→ZFV ops (ZH es O) o o':=by
    intro i o o' ho ho'
    obtain⟨g,h1,h2⟩:=Zc es i O
    rw[Array.getElem?_toList,h2]at ho'
    obtain⟨p,hp2,rfl⟩:=Option.map_eq_some_iff.1 ho'
    obtain⟨s1,s2,s3⟩:=same0 i o p ho (by rw[Array.getElem?_toList];exact hp2)
    refine⟨(h1 p).1.trans s1,(h1 p).2.1.trans s2,?_⟩
    rw[(h1 p).2.2]
    rcases s3 with s3|⟨j,j',b,q1,q2,q3⟩
    · exact .inl s3
    · exact .inr ⟨j,j',b,q1,q2,(hdA j').trans q3⟩
  obtain⟨b,_⟩:=NB.ofL (nb:=nb) (K:=K) (C:=fun _=>True) sameA (by rw[Array.length_toList,ZG,hll,hsz0]) fs tab xs xc (by rw[hll];exact hlt) hd ht hx hlat hoe hog
    (by simp only[hold]at h;exact ZEQ (fun xs1 ts1 fr1 ss1 ps1 ls1 hN=>⟨trivial,hN⟩) _ _ xs tab fr [σ] [] [] rfl (fun i o o' ho ho'=>by
      rw[ho]at ho';obtain rfl:=Option.some.inj ho'
      refine⟨rfl,rfl,?_⟩
      cases hg:o.guard with
      |none=>exact .inl ⟨rfl,rfl⟩
      |some p=>obtain⟨j,w⟩:=p;exact .inr ⟨j,j,w,rfl,rfl,rfl⟩) h)
  have hok:=FloatOk.of hfl
  obtain⟨dF,vs,hFF⟩:=b.fln hok hxF (fun d hd2=>hjk d (by rw[←hdst j0,hF];exact hd2)) (fun t i h1 h2=>hnz t i (by rw[←hop j0,hF];exact h1) h2)
  refine⟨hm,fun m0 w0 m a w hs Q hn=> ?_⟩
  have hxs:xc<O.size:=by rw[hsz0];exact hlt
  have hFs:F<O.size:=by obtain⟨o,t,d,k1,_⟩:=hok.at';exact(Array.getElem?_eq_some_iff.1 k1).1
  have hnil:∀(x:Nat) (d:Bool),x<O.size→(Array.replicate O.size false).getD x d=false:=fun x d hx=>by rw[Array.getD_eq_getD_getElem?,Array.getElem?_replicate,if_pos hx];rfl
  refine ZGJ b hFF hok hxF (by rw[hsz0];exact hwF) hn O.size (Array.replicate O.size false) fr 0 σ m a w (by simp) (hnil xc true hxs) (hnil F true hFs) (Nat.le_trans (List.length_filter_le _ _) (by simp)) (fun k o ho hlk=> ?_) (fun k o ho hlk=> ?_) (fun x t=>⟨fun j e hj hx=> ?_,fun _=>rfl⟩) (Nat.zero_le _) (fun x j e hj he=> ?_) b.h0 hs
  · rw[hnil k false (Array.getElem?_eq_some_iff.1 ho).1]at hlk;cases hlk
  · have:=(Array.getElem?_eq_some_iff.1 ho).1
    rw[ZG]at this
    rw[hnil k true this]at hlk;cases hlk
  · have:=(List.getElem?_eq_some_iff.1 hj).1
    rw[(b.hp x).len,ZG]at this
    have hx2:(Array.replicate O.size false).getD j true=true:=hx
    rw[hnil j true this]at hx2;cases hx2
  · have:=(List.getElem?_eq_some_iff.1 hj).1
    rw[(b.hp x).len,ZG]at this
    rw[hnil j true this]
    exact⟨fun q=>(by cases q),fun q=>absurd q (Nat.not_lt_zero _)⟩
end
end Go.Vl
