/- The value-level layer, part 11: an operation that is no call of Go text. -/
import Derived.Test.YtbibfeagkocjlaaVlSound6
set_option linter.all false
namespace Go.Vl
open Go
section
variable {P : Program} {B : Nat} {w : World} {m : Map} {σ : ZA}
theorem GoodN.of1 (h : Sim B m σ w) {K : AV → Prop} {K' : AV → ZA → Prop} {s : Sem Value} (hx : ∃ x v, K x ∧ s.run P w = .ok v w ∧ Conc B (Av m) w m x v)
    (hK:∀x,K x→K' x σ):GoodN B m w K' ((do pure (.value (←s)):Sem Next).run P w):=by
  obtain⟨x,v,hk,hr,hc⟩:=hx
  have:=GoodN.val h (hK x hk) hc
  simpa[hr]using this
theorem ZFF (h : Sim B m σ w) {o : Oper} {ρ : Operand → AV} {ρc : Operand → Value} (hρ : RelO B m w ρ ρc) {K : AV → ZA → Prop}
    (hk:aef P B o.op ρ σ K):GoodN B m w K ((execOp ρc o).run P w):=by
  unfold aef at hk
  unfold execOp
  split at hk
  · next x ho=>rw[ho];exact GoodN.val h hk (hρ x)
  · next x ho=>rw[ho];exact GoodN.val h hk (hρ x)
  · next c a b ho=>
    rw[ho]
    split at hk
    · next v hc=>
      have e:=hρ c;rw[hc]at e;have e:=Conc.lit_inv e
      have:=GoodN.val h hk (u:=if v then ρc a else ρc b) (by cases v<;>simp<;>exact hρ _)
      simpa[asBool,e]using this
    · exact hk.elim
  · next t ho=>
    rw[ho]
    split at hk
    · next i hi=>
      obtain⟨hz,hK⟩:=hk
      obtain⟨d,ti,_,g2,_,_,g4⟩:=ZCl hi
      rw[g4]at hz hK
      obtain⟨zv,hz1,hz2⟩:=ZBs (P:=P) (w:=w) g2 hz
      have hrel:=ZEg (B:=B) (m:=m) (w:=w) zv.cells
      rw[hz2]at hrel
      have key:∃ot cs,ZAf t (ZAP ti)=.tcells ot cs∧(∀T,ot=some T→t=T∧ZOC w.heap.size zv.cells)∧zv.cells.size=cs.length∧∀i x,cs[i]? =some x→Conc B (Av m) w m x (zv.cells.getD i undef):=by
        have hall:∀i x,((ZAP ti).map AV.lit)[i]? =some x→Conc B (Av m) w m x (zv.cells.getD i undef):=fun i x hi=>by
          obtain⟨y,hy,hc⟩:=hrel.2 i x hi
          have:zv.cells.getD i undef=y:=by simp[Array.getD_eq_getD_getElem?,hy]
          rw[this];exact hc
        unfold ZAf
        split
        · next hz3=>
          rw[hz3]at hz2 hrel hall
          refine⟨_,_,rfl,fun T hT=>⟨Option.some.inj hT,.inl ?_,fun a ha=> ?_⟩,hrel.1,fun i x hi=> ?_⟩
          · rw[←Array.getElem?_toList,hz2];rfl
          · rw[←Array.getElem?_toList,hz2]at ha
            simp at ha;exact ha.symm
          · match i,hi with
            |0,hi=>simp at hi;subst hi;exact .junk _
            |1,hi=>exact hall 1 x hi
            |i+2,hi=>simp at hi
        · exact⟨none,_,rfl,(fun _ h=>nomatch h),hrel.1,hall⟩
      obtain⟨ot,cs,hab,hot,hlen,hcc⟩:=key
      rw[hab]at hK
      obtain⟨hf,hs⟩:=h.boxT cs zv.cells t ot hot hlen hcc
      refine⟨.value (.pointer (some ⟨w.heap.size,0,none⟩)),_,_,_,_,w.alloc (.cells zv.cells t),?_,.inl rfl,hK,hs,?_,hf⟩
      · simp[Instr.alloc,hz1,newVar,newRow]
      · rw[←h.n];exact .ptrBox m.n 0 w.heap.size (by simp[Map.push]) (Map.push_new _ _)
    · exact hk.elim
  · next t x ho=>
    rw[ho]
    obtain⟨cs,hK,hlen,hc⟩:=ZAe h hk (hρ x)
    obtain⟨hf,hs⟩:=h.box cs (ρc x).cells t hlen hc
    refine⟨.value (.pointer (some ⟨w.heap.size,0,none⟩)),_,_,_,_,w.alloc (.cells (ρc x).cells t),?_,.inl rfl,hK,hs,?_,hf⟩
    · simp[Instr.box,newVar,newRow]
    · rw[←h.n];exact .ptrBox m.n 0 w.heap.size (by simp[Map.push]) (Map.push_new _ _)
  · next t parts ho=>
    rw[ho]
    obtain⟨h1,h2⟩:=ZEf hρ parts
    exact(ZFL h hk h1 h2).toN fun _ _ hh=>hh
  · next t len parts ho=>
    rw[ho]
    obtain⟨h1,h2⟩:=ZEf hρ parts
    exact(ZCV h hk h1 h2).toN fun _ _ hh=>hh
  · next t x ho=>
    rw[ho]
    exact GoodN.of1 h (ZDG h hk (hρ x)) fun _ hh=>hh
  · next t a x ho=>
    rw[ho]
    obtain⟨σ',w',hK,hrun,hs,hf⟩:=ZFH (P:=P) h hk (hρ a) (hρ x)
    exact⟨.skip,undef,_,σ',m,w',by simp[hrun],.inr ⟨rfl,rfl⟩,hK,hs,.lit _,hf⟩
  · next x ho=>
    rw[ho]
    obtain⟨b,o',hu,_⟩:=ZBk h hk.1 (hρ x) 0
    have:=GoodN.val h hk.2 (hρ x)
    simpa[hu]using this
  · next op t x y yt ho=>
    rw[ho]
    exact(ZHu h hk (hρ x) (hρ y)).toN fun r s hh=>by obtain⟨h1,rfl⟩:=hh;exact h1
  · next op t x ho=>
    rw[ho]
    exact(ZJG h hk (hρ x)).toN fun r s hh=>by obtain⟨h1,rfl⟩:=hh;exact h1
  · next s d x ho=>
    rw[ho]
    exact(ZGT h hk (hρ x)).toN fun r s hh=>by obtain⟨h1,rfl⟩:=hh;exact h1
  · next fn first cap ho=>
    rw[ho]
    obtain⟨a1,a2⟩:=ZD0 hρ first
    obtain⟨b1,b2⟩:=ZD0 hρ cap
    have:=GoodN.val h hk (Conc.fn fn _ _ _ _ a1 b1 a2 b2)
    simpa[Instr.makeFunc]using this
  · next t l c ho=>
    rw[ho]
    exact(ZCf h hk (hρ l) (hρ c)).toN fun _ _ hh=>hh
  · next t x lo hi mx ho=>
    rw[ho]
    refine(ZFI h hk (hρ x) (by cases lo<;>simp) ?_ (by cases hi<;>simp) ?_ (by cases mx<;>simp)).toN fun _ _ hh=>hh
    · intro a b ha hb
      cases lo with
      |none=>cases ha
      |some o=>simp at ha hb;subst ha hb;exact hρ o
    · intro a b ha hb
      cases hi with
      |none=>cases ha
      |some o=>simp at ha hb;subst ha hb;exact hρ o
  · next t x f ho=>
    rw[ho]
    exact GoodN.of1 h (ZCh h hk (hρ x)) fun _ hh=>hh
  · next t x i ho=>
    rw[ho]
    exact GoodN.of1 h (ZCg h hk (hρ x) (hρ i)) fun _ hh=>hh
  · next t x i ho=>
    rw[ho]
    exact(ZFK h hk (hρ x) (hρ i)).toN fun r s hh=>by obtain⟨h1,rfl⟩:=hh;exact h1
  · next x i ho=>
    rw[ho]
    split at hk
    · next vs hv=>
      have e:=hρ x;rw[hv]at e
      generalize hu:ρc x=u at e
      cases e with
      |tup vs us hlen hx=>
        have hi:i<us.size:=by rw[hlen];exact hk.1
        have hc:=hx i (vs.getD i .junk) (by simp[List.getD,hk.1])
        have:=GoodN.val h hk.2 hc
        have e2:us.getD i undef=us[i]:=by simp[Array.getD,hi]
        rw[e2]at this
        simpa[Instr.extract,hu,hi]using this
    · exact hk.elim
  · next b args ts ho=>
    rw[ho]
    simp only[resolve,invoke,Sem.run_bind,Sem.run_pure,Result.andThen_ok]
    exact ZDT h hρ hk o.type _
  · exact hk.elim
end
end Go.Vl
