/- A part of the proof. -/
import Derived.Test.YtoiccjladkadgaaGreatVlSound6
set_option linter.all false
namespace Go.Vl
open Go
section
variable {P : Program} {B : Nat} {w : World} {m : Map} {σ : ZA}
theorem GoodN.of1 (h:Sim B m σ w){K:AV->Prop}{K':AV->ZA->Prop}{s:Sem Value}(hx:∃x v,K x/\s.run P w=.ok v w/\Conc B (Av m) w m x v)
  (hK:∀x,K x->K' x σ):GoodN B m w K' ((do pure (.value (←s)):Sem Next).run P w):=by
 obtain⟨x,v,hk,hr,hc⟩:=hx
 have:=GoodN.val h (hK x hk) hc
 simpa[hr]using this
theorem ZFu (h:Sim B m σ w){o:Oper}{ρ:Operand->AV}{ρc:Operand->Value}(hρ:RelO B m w ρ ρc){K:AV->ZA->Prop}
  (hk:aef P B o.op ρ σ K):GoodN B m w K ((execOp ρc o).run P w):=by
 unfold aef at hk
 unfold execOp
 split at hk
 ·next x ho=>rw[ho];exact GoodN.val h hk (hρ x)
 ·next x ho=>rw[ho];exact GoodN.val h hk (hρ x)
 ·next c a b ho=>
  rw[ho]
  split at hk
  ·next v hc=>
   have e:=hρ c;rw[hc]at e;have e:=Conc.lit_inv e
   have:=GoodN.val h hk (u:=if v then ρc a else ρc b) (by cases v<;>simp<;>exact hρ _)
   simpa[asBool,e]using this
  ·exact hk.elim
 ·next t ho=>
  rw[ho]
  split at hk
  ·next i hi=>
   obtain⟨hz,hK⟩:=hk
   obtain⟨d,ti,_,g2,_,_,g4⟩:=ZDF hi
   rw[g4]at hz hK
   obtain⟨zv,hz1,hz2⟩:=ZB0 (P:=P) (w:=w) g2 hz
   have hrel:=ZFH (B:=B) (m:=m) (w:=w) zv.cells
   rw[hz2]at hrel
   obtain⟨hf,hs⟩:=h.box ((ZAa ti).map .lit) zv.cells t hrel.1 (fun i x hi=>by
    obtain⟨y,hy,hc⟩:=hrel.2 i x hi
    have:zv.cells.getD i undef=y:=by simp[Array.getD_eq_getD_getElem?,hy]
    rw[this];exact hc)
   refine⟨.value (.pointer (some ⟨w.heap.size,0,none⟩)),_,_,_,_,w.alloc (.cells zv.cells t),?_,.inl rfl,hK,hs,?_,hf⟩
   ·simp[Instr.alloc,hz1,newVar,newRow]
   ·rw[←h.n];exact .ptrBox m.n 0 w.heap.size (by simp[Map.push]) (Map.push_new _ _)
  ·exact hk.elim
 ·next t x ho=>
  rw[ho]
  obtain⟨cs,hK,hlen,hc⟩:=ZAl h hk (hρ x)
  obtain⟨hf,hs⟩:=h.box cs (ρc x).cells t hlen hc
  refine⟨.value (.pointer (some ⟨w.heap.size,0,none⟩)),_,_,_,_,w.alloc (.cells (ρc x).cells t),?_,.inl rfl,hK,hs,?_,hf⟩
  ·simp[Instr.box,newVar,newRow]
  ·rw[←h.n];exact .ptrBox m.n 0 w.heap.size (by simp[Map.push]) (Map.push_new _ _)
 ·next t parts ho=>
  rw[ho]
  obtain⟨h1,h2⟩:=ZFG hρ parts
  exact(ZF0 h hk h1 h2).toN fun _ _ hh=>hh
 ·next t len parts ho=>
  rw[ho]
  obtain⟨h1,h2⟩:=ZFG hρ parts
  exact(ZCt h hk h1 h2).toN fun _ _ hh=>hh
 ·next t x ho=>
  rw[ho]
  exact GoodN.of1 h (ZDq h hk (hρ x)) fun _ hh=>hh
 ·next t a x ho=>
  rw[ho]
  obtain⟨σ',w',hK,hrun,hs,hf⟩:=ZFv (P:=P) h hk (hρ a) (hρ x)
  exact⟨.skip,undef,_,σ',m,w',by simp[hrun],.inr ⟨rfl,rfl⟩,hK,hs,.lit _,hf⟩
 ·next x ho=>
  rw[ho]
  obtain⟨b,o',hu,_⟩:=ZBm h hk.1 (hρ x) 0
  have:=GoodN.val h hk.2 (hρ x)
  simpa[hu]using this
 ·next op t x y yt ho=>
  rw[ho]
  exact(ZIi h hk (hρ x) (hρ y)).toN fun r s hh=>by obtain⟨h1,rfl⟩:=hh;exact h1
 ·next op t x ho=>
  rw[ho]
  exact(ZKB h hk (hρ x)).toN fun r s hh=>by obtain⟨h1,rfl⟩:=hh;exact h1
 ·next s d x ho=>
  rw[ho]
  exact(ZG5 h hk (hρ x)).toN fun r s hh=>by obtain⟨h1,rfl⟩:=hh;exact h1
 ·next fn first cap ho=>
  rw[ho]
  obtain⟨a1,a2⟩:=ZEg hρ first
  obtain⟨b1,b2⟩:=ZEg hρ cap
  have:=GoodN.val h hk (Conc.fn fn _ _ _ _ a1 b1 a2 b2)
  simpa[Instr.makeFunc]using this
 ·next t l c ho=>
  rw[ho]
  exact(ZC3 h hk (hρ l) (hρ c)).toN fun _ _ hh=>hh
 ·next t x lo hi mx ho=>
  rw[ho]
  refine(ZFw h hk (hρ x) (by cases lo<;>simp) ?_ (by cases hi<;>simp) ?_ (by cases mx<;>simp)).toN fun _ _ hh=>hh
  ·intro a b ha hb
   cases lo with
   |none=>cases ha
   |some o=>simp at ha hb;subst ha hb;exact hρ o
  ·intro a b ha hb
   cases hi with
   |none=>cases ha
   |some o=>simp at ha hb;subst ha hb;exact hρ o
 ·next t x f ho=>
  rw[ho]
  exact GoodN.of1 h (ZC5 h hk (hρ x)) fun _ hh=>hh
 ·next t x i ho=>
  rw[ho]
  exact GoodN.of1 h (ZC4 h hk (hρ x) (hρ i)) fun _ hh=>hh
 ·next t x i ho=>
  rw[ho]
  exact(ZFx h hk (hρ x) (hρ i)).toN fun r s hh=>by obtain⟨h1,rfl⟩:=hh;exact h1
 ·next x i ho=>
  rw[ho]
  split at hk
  ·next vs hv=>
   have e:=hρ x;rw[hv]at e
   generalize hu:ρc x=u at e
   cases e with
   |tup vs us hlen hx=>
    have hi:i<us.size:=by rw[hlen];exact hk.1
    have hc:=hx i (vs.getD i .junk) (by simp[List.getD,hk.1])
    have:=GoodN.val h hk.2 hc
    have e2:us.getD i undef=us[i]:=by simp[Array.getD,hi]
    rw[e2]at this
    simpa[Instr.extract,hu,hi]using this
  ·exact hk.elim
 ·next b args ts ho=>
  rw[ho]
  simp only[resolve,invoke,Sem.run_bind,Sem.run_pure,Result.andThen_ok]
  exact ZD4 h hρ hk o.type _
 ·exact hk.elim
end
end Go.Vl
