/- Part. -/
import Derived.Test.YtmjpphcloedceaaGreatVlRun
import Derived.ProofKit
set_option linter.all false
open List renaming getElem?_eq_some_iff->zA,getElem?_eq_getElem->zB,getD_eq_getElem?_getD->zC,getElem?_append_right->zD,getElem?_append_left->zE,getElem?_of_mem->zF,all_eq_true->zG
open Array renaming getElem?_eq_some_iff->zH
open Bool renaming and_eq_true->zI
open Option renaming bind_eq_some_iff->zJ
namespace Go.Vl
open Go Go.RowKit Go.ChangeShapes
def ZAh (P:Program):Nat->TypeId->List AV->Prop
 |0,_,_=>False
 |n+1,t,as=>match P.underlying t with
  |some .bool=>∃b,as=[.lit (.bool b)]
  |some (.int k)=>∃i,as=[.lit (.int k i)]/\(Lit.int k i).wf=true
  |some .string=>∃s,as=[.lit (.string s)]/\s.size<=maxLen
  |some (.slice e)=>∃es,as=[.arr es]/\es.length<=maxLen/\∀x,x∈es->x.length=P.cellsOf e/\ZAh P n e x
  |some (.pointer e)=>as=[.lit (.pointer none)]∨∃x,as=[.rptr x 0]/\x.length=P.cellsOf e/\ZAh P n e x
  |some (.struct fs)=>as.length=P.cellsOf t/\∀f,f∈fs.toList->ZAh P n f.type ((as.drop f.offset).take (P.cellsOf f.type))
  |_=>True
def ZHo (P:Program):Nat->List Field->Nat->Bool
 |o,[],n=>o==n
 |o,f::r,n=>f.offset==o&& ZHo P (o+P.cellsOf f.type) r n
def tyB (P:Program)(L:List TypeId):Bool:=L.all fun t=>decide (P.cellsOf t<=1024)&& match P.underlying t with
 |some (.struct fs)=>ZHo P 0 fs.toList (P.cellsOf t)&& fs.toList.all fun f=>L.contains f.type
 |some (.slice e)=>decide (0<P.cellsOf e)&& L.contains e
 |some (.pointer e)=>decide (0<P.cellsOf e)&& L.contains e
 |_=>true
def BIG :Nat:=2^63-1
def Rl (w:World)(as:List AV)(cs:List Value):Prop:=as.length=cs.length/\∀(k:Nat) (x:AV),as[k]? =some x->Conc BIG (fun _=>False) w M0 x (cs.getD k undef)
theorem Rl.one {w:World}{x:AV}{v:Value}(h:Conc BIG (fun _=>False) w M0 x v):Rl w [x] [v]:=by
 refine⟨rfl,fun k y hk=> ?_⟩
 cases k with
 |zero=>simp at hk;subst hk;exact h
 |succ k=>simp at hk
section
variable {H : Type} {enc : TypeId × Value -> H} {P : Program} {w : World}
theorem ZBK {a:Addr}{n:Nat}{cs:List Value}(h:w.cells? 0 a n=some cs):cs.length=n/\∀k,k<n->w.cell? (a.add k)=some (cs.getD k undef):=by
 unfold World.cells? at h
 simp at h
 have hlen:cs.length=n:=by simpa using mapM_some_length h
 refine⟨hlen,fun k hk=> ?_⟩
 have e:(List.range n)[k]? =some k:=by simp[hk]
 have:=mapM_some_get h k k e
 rw[this,zC,zB (by omega)];rfl
theorem ZIm {a:Addr}{v:Value}(h:w.cell? (a.add 0)=some v):a=⟨a.block,a.off,none⟩/\a.block<w.heap.size:=by
 have e:a.add 0=a:=by simp[Addr.add]
 rw[e]at h
 obtain⟨b,o,s⟩:=a
 unfold World.cell? at h
 split at h
 ·next c t f hc=>
  cases s with
  |none=>exact⟨rfl,(zH.1 hc).1⟩
  |some s=>simp at h
 ·cases h
theorem ZBq (b o n:Nat):(⟨b,o,none⟩:Addr).add n=⟨b,o+n,none⟩:=by
 unfold Addr.add
 split
 ·next h=>subst h;rfl
 ·rfl
theorem ZHA {L:List TypeId}(h:tyB P L=true){t:TypeId}(ht:L.contains t=true):P.cellsOf t<=1024/\(∀fs,P.underlying t=some (.struct fs)->ZHo P 0 fs.toList (P.cellsOf t)=true/\∀f,f∈fs.toList->L.contains f.type=true)/\
  (∀e,P.underlying t=some (.slice e)->0<P.cellsOf e/\L.contains e=true)/\(∀e,P.underlying t=some (.pointer e)->0<P.cellsOf e/\L.contains e=true):=by
 unfold tyB at h
 rw[zG]at h
 have:=h t (List.contains_iff_mem.1 ht)
 rw[zI,decide_eq_true_eq]at this
 refine⟨this.1,fun fs hf=> ?_,fun e hf=> ?_,fun e hf=> ?_⟩
 ·have:=this.2;rw[hf]at this
  simp only[zI]at this
  exact⟨this.1,zG.1 this.2⟩
 ·have:=this.2;rw[hf]at this
  simp only[zI,decide_eq_true_eq]at this
  exact this
 ·have:=this.2;rw[hf]at this
  simp only[zI,decide_eq_true_eq]at this
  exact this
theorem ZD9 {n:Nat}{cs:List Value}:∀(fs:List Field) (o N:Nat),ZHo P o fs N=true->cs.length=N->
  (∀f,f∈fs->∃as,Rl w as ((cs.drop f.offset).take (P.cellsOf f.type))/\ZAh P n f.type as)->
  o<=N/\∃as:List AV,as.length=N-o/\(∀(k:Nat) (x:AV),as[k]? =some x->Conc BIG (fun _=>False) w M0 x (cs.getD (o+k) undef))/\
   ∀f,f∈fs->o<=f.offset/\ZAh P n f.type ((as.drop (f.offset-o)).take (P.cellsOf f.type))
 | [],o,N,h,hl,_=>by
  simp[ZHo]at h
  subst h
  exact⟨Nat.le_refl _,[],by simp,fun k x hk=>by simp at hk,fun f hf=>by simp at hf⟩
 |f::r,o,N,h,hl,hx=>by
  simp only[ZHo,zI,beq_iff_eq]at h
  obtain⟨rfl,h2⟩:=h
  obtain⟨hle,as,ha,hc,ht⟩:=ZD9 r _ N h2 hl (fun f hf=>hx f (List.mem_cons_of_mem _ hf))
  obtain⟨as0,hr,ht0⟩:=hx f (by simp)
  have hl0:as0.length=P.cellsOf f.type:=by rw[hr.1];simp;omega
  refine⟨by omega,as0++as,by simp;omega,fun k x hk=> ?_,fun g hg=> ?_⟩
  ·by_cases hlt:k<as0.length
   ·rw[zE hlt]at hk
    have:=hr.2 k x hk
    have e:((cs.drop f.offset).take (P.cellsOf f.type)).getD k undef=cs.getD (f.offset+k) undef:=by
     rw[zC,zC,List.getElem?_take_of_lt (by omega),List.getElem?_drop]
    rw[e]at this;exact this
   ·rw[zD (by omega)]at hk
    have:=hc _ x hk
    have e:f.offset+P.cellsOf f.type+(k-as0.length)=f.offset+k:=by omega
    rw[e]at this;exact this
  ·rcases List.mem_cons.1 hg with rfl|hg
   ·refine⟨Nat.le_refl _,?_⟩
    simp only[Nat.sub_self,List.drop_zero]
    rw[List.take_append_of_le_length (by omega),List.take_of_length_le (by omega)]
    exact ht0
   ·obtain⟨h1,h3⟩:=ht g hg
    refine⟨by omega,?_⟩
    rw[List.drop_append,List.drop_eq_nil_of_le (by omega),List.nil_append]
    have e:g.offset-f.offset-as0.length=g.offset- (f.offset+P.cellsOf f.type):=by omega
    rw[e];exact h3
theorem ZDj {α:Type}{Q:Nat->α->Prop}:∀n:Nat,(∀i,i<n->∃x,Q i x)->∃xs:List α,xs.length=n/\∀(i:Nat) (x:α),xs[i]? =some x->Q i x
 |0,_=>⟨[],rfl,fun i x hi=>by simp at hi⟩
 |n+1,h=>by
  obtain⟨xs,hl,hx⟩:=ZDj n (fun i hi=>h i (by omega))
  obtain⟨x,hq⟩:=h n (by omega)
  refine⟨xs++[x],by simp[hl],fun i y hi=> ?_⟩
  by_cases hlt:i<xs.length
  ·rw[zE hlt]at hi;exact hx i y hi
  ·rw[zD (by omega)]at hi
   have:i-xs.length=0:=by
    have:=(zA.1 hi).1;simp at this;omega
   rw[this]at hi;simp at hi;subst hi
   have e:i=n:=by omega
   rw[e];exact hq
theorem ZEp {L:List TypeId}(hty:tyB P L=true){spare:Nat->Bool}{held:Bool}:∀(fuel:Nat) (t:TypeId) (cs:List Value) (x:DataW H×List MemPlace),L.contains t=true->
  DataW.trod enc P w 0 spare held fuel t cs=some x->∃as,Rl w as cs/\ZAh P fuel t as
 |0,t,cs,x,ht,h=>by simp[DataW.trod]at h
 |n+1,t,cs,x,ht,h=>by
  have junk:∃as,Rl w as cs:=⟨cs.map fun _=>.junk,by simp,fun k y hk=>by
   simp at hk;obtain⟨_,_,rfl⟩:=hk;exact .junk _⟩
  obtain⟨hc,hst,hsl,hpt⟩:=ZHA hty ht
  cases hu:P.underlying t with
  |none=>obtain⟨as,h1⟩:=junk;exact⟨as,h1,by simp[ZAh,hu]⟩
  |some d=>
   cases d with
   |bool=>
    have:∃b,cs=[.bool b]:=by
     unfold DataW.trod at h
     rw[hu]at h
     split at h<;>simp_all
    obtain⟨b,rfl⟩:=this
    exact⟨_,Rl.one (.lit _),by simp[ZAh,hu]⟩
   |int k=>
    obtain⟨i,rfl,_,hw⟩:=DataW.trod_int hu h
    exact⟨_,Rl.one (.lit _),by simp[ZAh,hu,hw]⟩
   |string=>
    obtain⟨s,rfl,_,hw⟩:=DataW.trod_string hu h
    exact⟨_,Rl.one (.lit _),by simp[ZAh,hu,hw]⟩
   |struct fs=>
    obtain⟨xs,n',hn,_,hl,hlen,hf⟩:=DataW.trod_struct hu h
    obtain rfl:n'=n:=by omega
    obtain⟨_,as,ha,hca,hta⟩:=ZD9 (P:=P) (w:=w) (n:=n') (cs:=cs) fs.toList 0 (P.cellsOf t) (hst fs hu).1 hl (fun f hf'=>by
     obtain⟨i,hi⟩:=zF hf'
     have hi':fs[i]? =some f:=by simpa using hi
     have h3:=hf i f hi'
     have hlt:i<xs.length:=by rw[hlen];exact(zH.1 hi').1
     rw[zB hlt]at h3
     exact ZEp hty n' f.type _ _ ((hst fs hu).2 f hf') h3)
    refine⟨as,⟨by omega,fun k y hk=>by have:=hca k y hk;rwa[Nat.zero_add]at this⟩,?_⟩
    simp only[ZAh,hu]
    exact⟨by omega,fun f hf'=>by have:=(hta f hf').2;rwa[Nat.sub_zero]at this⟩
   |pointer e=>
    obtain⟨hpos,hesz⟩:=hpt e hu
    rcases DataW.trod_pointer hu h with⟨rfl,_⟩|⟨a,cs',y,n',hn,rfl,_,hcs,hy⟩
    ·exact⟨_,Rl.one (.lit _),by simp[ZAh,hu]⟩
    ·obtain rfl:n'=n:=by omega
     obtain⟨hlen,hcell⟩:=ZBK hcs
     obtain⟨as,hr,hta⟩:=ZEp hty n' e cs' y hesz hy
     obtain⟨ha,hb⟩:=ZIm (hcell 0 hpos)
     generalize a.block=b at ha hb;generalize a.off=o at ha;subst ha
     refine⟨[.rptr as 0],Rl.one ?_,?_⟩
     ·have:=Conc.rptr (B:=BIG) (W:=fun _=>False) (w:=w) (m:=M0) as 0 b o (fun k=>cs'.getD k undef) (fun h=>h) hb (fun k x hk=>by
       have hlt:k<P.cellsOf e:=by have:=(zA.1 hk).1;have:=hr.1;omega
       have:=hcell k hlt
       rwa[ZBq]at this) (fun k x hk=>hr.2 k x hk)
      exact this
     ·simp only[ZAh,hu]
      exact .inr ⟨as,rfl,by rw[hr.1,hlen],hta⟩
   |slice e=>
    obtain⟨hpos,hesz⟩:=hsl e hu
    rcases DataW.trod_slice hu h with⟨rfl,_⟩|⟨a,len,cap,elems,rest,n',hn,rfl,_,_,hlc,hcm,hel,hi,_,_⟩
    ·exact⟨[.arr []],Rl.one (.arrNil none 0),by simp[ZAh,hu]⟩
    ·obtain rfl:n'=n:=by omega
     have hc1024:=(ZHA hty hesz).1
     have key:∀i,i<len->∃as:List AV,∃cs':List Value,(cs'.length=P.cellsOf e/\∀k,k<P.cellsOf e->w.cell? ((a.add (i*P.cellsOf e)).add k)=some (cs'.getD k undef))/\Rl w as cs'/\ZAh P n' e as:=by
      intro i hlt
      have:=hi i hlt
      rw[zB (by omega),zJ]at this
      obtain⟨cs',h1,h2⟩:=this
      obtain⟨as,hr,hta⟩:=ZEp hty n' e cs' _ hesz h2
      exact⟨as,cs',ZBK h1,hr,hta⟩
     by_cases hz:len=0
     ·subst hz
      exact⟨[.arr []],Rl.one (.arrNil _ _),by simp[ZAh,hu]⟩
     ·obtain⟨as0,cs0,⟨_,h0⟩,_⟩:=key 0 (by omega)
      have ha:=ZIm (a:=a) (v:=cs0.getD 0 undef) (by have:=h0 0 hpos;simpa[Addr.add]using this)
      obtain⟨ha,hb⟩:=ha
      generalize a.block=b at ha hb;generalize a.off=o at ha;subst ha
      obtain⟨es,hes,hq⟩:=ZDj len key
      have hsz:∀x,x∈es->x.length=P.cellsOf e/\ZAh P n' e x:=by
       intro x hx
       obtain⟨i,hi⟩:=zF hx
       obtain⟨cs',⟨h1,_⟩,h2,h3⟩:=hq i x hi
       exact⟨by rw[h2.1,h1],h3⟩
      refine⟨[.arr es],Rl.one ?_,?_⟩
      ·have hB:es.length<=BIG:=by
        have:es.length<=maxLen:=by omega
        exact this
       have:=Conc.arr (B:=BIG) (W:=fun _=>False) (w:=w) (m:=M0) es b o (P.cellsOf e) cap (fun i k=>(((w.cells? 0 ⟨b,o+i*P.cellsOf e,none⟩ (P.cellsOf e)).getD [])).getD k undef) hB (fun x hx=>(hsz x hx).1) (fun h=>h) hb (by omega) ?_ ?_
       ·rw[hes]at this;exact this
       ·intro i x k y h1 h2
        obtain⟨cs',⟨hl,hcell⟩,hr,_⟩:=hq i x h1
        have hlt:i<len:=by have:=(zA.1 h1).1;omega
        have hk:k<P.cellsOf e:=by have:=(zA.1 h2).1;have:=hr.1;omega
        have hc:=hi i hlt
        rw[zB (by omega),zJ]at hc
        obtain⟨cs2,hc1,hc2⟩:=hc
        rw[ZBq]at hc1
        rw[hc1]
        have:=(ZBK hc1).2 k hk
        rw[ZBq]at this
        exact this
       ·intro i x k y h1 h2
        obtain⟨cs',⟨hl,hcell⟩,hr,_⟩:=hq i x h1
        have hlt:i<len:=by have:=(zA.1 h1).1;omega
        have hk:k<P.cellsOf e:=by have:=(zA.1 h2).1;have:=hr.1;omega
        have hc:=hi i hlt
        rw[zB (by omega),zJ]at hc
        obtain⟨cs2,hc1,hc2⟩:=hc
        rw[ZBq]at hc1
        rw[hc1]
        have h5:=(ZBK hc1).2 k hk
        have h6:=hcell k hk
        rw[ZBq]at h5 h6
        rw[ZBq]at h6
        rw[h5]at h6
        have h7:=Option.some.inj h6
        show Conc BIG _ w M0 y (cs2.getD k undef)
        rw[h7]
        exact hr.2 k y h2
      ·simp only[ZAh,hu]
       exact⟨es,rfl,by omega,hsz⟩
   |_=>obtain⟨as,h1⟩:=junk;exact⟨as,h1,by simp[ZAh,hu]⟩
end
end Go.Vl
