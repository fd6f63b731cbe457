/- The value-level layer, part 3b: cells that own all they hold. -/
import Derived.Test.YtbibfeagkocjlaaVlWorld
set_option linter.all false
namespace Go.Vl
open Go
section
variable {B : Nat} {w : World}
theorem DVs.len {xs:List AV}{vs:List Value}{F:List Nat}(h:DVs B w xs vs F):vs.length=xs.length:=by
  induction h with
  |nil=>rfl
  |lit v h ih=>simp[ih]
  |emp a h ih=>simp[ih]
  |arr es b sz cap ccs ty hB hne hsz hcap hh hsize hx h ih1 ih2=>simp[ih2]
theorem DVs.append {xs ys:List AV}{vs us:List Value}{F G:List Nat}(h:DVs B w xs vs F)(h':DVs B w ys us G):DVs B w (xs++ys) (vs++us) (F++G):=by
  induction h with
  |nil=>exact h'
  |lit v h ih=>exact .lit v ih
  |emp a h ih=>exact .emp a ih
  |arr es b sz cap ccs ty hB hne hsz hcap hh hsize hx h ih1 ih2=>
    have:=DVs.arr (B:=B) (w:=w) es b sz cap ccs ty hB hne hsz hcap hh hsize hx ih2
    simpa[List.append_assoc]using this
theorem DVs.split {xs ys:List AV}:∀{vs:List Value} {F:List Nat},DVs B w (xs++ys) vs F→∃vs1 vs2 F1 F2,vs=vs1++vs2∧F=F1++F2∧DVs B w xs vs1 F1∧DVs B w ys vs2 F2:=by
  induction xs with
  |nil=>intro vs F h;exact⟨[],vs,[],F,rfl,rfl,.nil,h⟩
  |cons x xs ih=>
    intro vs F h
    rw[List.cons_append]at h
    cases h with
    |lit v h=>
      obtain⟨vs1,vs2,F1,F2,rfl,rfl,h1,h2⟩:=ih h
      exact⟨v::vs1,vs2,F1,F2,rfl,rfl,.lit v h1,h2⟩
    |emp a h=>
      obtain⟨vs1,vs2,F1,F2,rfl,rfl,h1,h2⟩:=ih h
      exact⟨_::vs1,vs2,F1,F2,rfl,rfl,.emp a h1,h2⟩
    | @arr es b sz cap ccs ty _ vs' F' F0 hB hne hsz hcap hh hsize hx h=>
      obtain⟨vs1,vs2,F1,F2,rfl,rfl,h1,h2⟩:=ih h
      exact⟨_::vs1,vs2,b::F'++F1,F2,rfl,by simp[List.append_assoc],.arr es b sz cap ccs ty hB hne hsz hcap hh hsize hx h1,h2⟩
theorem ZAZ {α:Type}{sz:Nat}:∀{es:List (List α)} (_:∀e,e∈es→e.length=sz) {i:Nat} {e:List α} {k:Nat} {x:α},es[i]? =some e→e[k]? =some x→es.flatten[i*sz+k]? =some x
  | [],_,i,e,k,x,h1,_=>by simp at h1
  |a::es,hsz,i,e,k,x,h1,h2=>by
    have ha:=hsz a (List.mem_cons_self ..)
    cases i with
    |zero=>
      simp at h1;subst h1
      rw[List.flatten_cons,Nat.zero_mul,Nat.zero_add,List.getElem?_append_left (List.getElem?_eq_some_iff.1 h2).1];exact h2
    |succ i=>
      rw[List.flatten_cons,List.getElem?_append_right (by rw[ha,Nat.succ_mul];omega),ha]
      have e':(i+1)*sz+k-sz=i*sz+k:=by rw[Nat.succ_mul];omega
      rw[e']
      exact ZAZ (fun e he=>hsz e (List.mem_cons_of_mem _ he)) (by simpa using h1) h2
theorem ZA0 {α:Type}{sz:Nat}:∀{es:List (List α)} (_:∀e,e∈es→e.length=sz),es.flatten.length=es.length*sz
  | [],_=>by simp
  |a::es,hsz=>by
    rw[List.flatten_cons,List.length_append,hsz a (List.mem_cons_self ..),ZA0 fun e he=>hsz e (List.mem_cons_of_mem _ he),List.length_cons,Nat.succ_mul];omega
theorem DVs.conc {W:Nat→Prop}{xs:List AV}{vs:List Value}{F:List Nat}(h:DVs B w xs vs F):(∀b,b∈F→¬W b)→∀(i:Nat) (x:AV),xs[i]? =some x→∃v,vs[i]? =some v∧Conc B W w M0 x v:=by
  induction h with
  |nil=>intro _ i x hi;simp at hi
  |lit v h ih=>
    intro hF i x hi
    cases i with
    |zero=>simp at hi;subst hi;exact⟨v,rfl,.lit v⟩
    |succ i=>exact ih hF i x (by simpa using hi)
  |emp a h ih=>
    intro hF i x hi
    cases i with
    |zero=>simp at hi;subst hi;exact⟨_,rfl,.arrNil a 0⟩
    |succ i=>exact ih hF i x (by simpa using hi)
  |arr es b sz cap ccs ty hB hne hsz hcap hh hsize hx h ih1 ih2=>
    intro hF i x hi
    have hF1:¬W b:=hF b (by simp)
    have k1:=ih1 fun b' hb=>hF b' (by simp[hb])
    have k2:=ih2 fun b' hb=>hF b' (by simp[hb])
    cases i with
    |succ i=>exact k2 i x (by simpa using hi)
    |zero=>
      simp at hi;subst hi
      refine⟨_,rfl,?_⟩
      have hlen:=hx.len
      have get:∀i e k x,es[i]? =some e→e[k]? =some x→∃v,ccs[i*sz+k]? =some v∧Conc B W w M0 x v:=by
        intro i e k x h1 h2
        obtain⟨v,hv,hc⟩:=k1 _ x (ZAZ hsz h1 h2)
        refine⟨v,?_,hc⟩
        rw[List.getElem?_take]at hv
        split at hv
        · simpa using hv
        · cases hv
      refine .arr es b 0 sz cap (fun i k=>ccs.getD (i*sz+k) undef) hB hsz hF1 (Array.getElem?_eq_some_iff.1 hh).1 hcap ?_ ?_
      · intro i e k x h1 h2
        obtain⟨v,hv,_⟩:=get i e k x h1 h2
        rw[ZA3 hh,Nat.zero_add,hv,Array.getD_eq_getD_getElem?,hv];rfl
      · intro i e k x h1 h2
        obtain⟨v,hv,hc⟩:=get i e k x h1 h2
        rw[Array.getD_eq_getD_getElem?,hv];exact hc
def ZK :List AV→List (List (List AV))
  | []=>[]
  | .arr es::r=>es::ZK r
  |_::r=>ZK r
def ZAJ :List AV→List Value→List AV
  | [],_=>[]
  | .arr _::r,h::hs=>.lit h::ZAJ r hs
  |x::r,hs=>x::ZAJ r hs
def Zd :List (List (List AV))→List Value→ZA
  |es::r,h::hs=>.pack [.arr es] [h]::Zd r hs
  |_,_=>[]
theorem DVs.parts {xs : List AV} {vs : List Value} {F : List Nat} (h : DVs B w xs vs F) : ∃ (hs : List Value) (Fs : List (List Nat)), hs.length = (ZK xs).length ∧ Fs.length = hs.length ∧ F = Fs.flatten ∧
    ZAJ xs hs=vs.map .lit∧∀(i:Nat) es (hd:Value) F,(ZK xs)[i]? =some es→hs[i]? =some hd→Fs[i]? =some F→DVs B w [.arr es] [hd] F:=by
  induction h with
  |nil=>exact⟨[],[],rfl,rfl,rfl,rfl,fun i es hd F h=>by simp[ZK]at h⟩
  |lit v h ih=>
    obtain⟨hs,Fs,h1,h2,h3,h4,h5⟩:=ih
    exact⟨hs,Fs,h1,h2,h3,by simp[ZAJ,h4],h5⟩
  | @emp a xs vs F h ih=>
    obtain⟨hs,Fs,h1,h2,h3,h4,h5⟩:=ih
    refine⟨.slice a 0 0::hs,[]::Fs,by simp[ZK,h1],by simp[h2],by simpa using h3,by simp[ZAJ,h4],fun i es hd F q1 q2 q3=> ?_⟩
    cases i with
    |zero=>simp[ZK]at q1 q2 q3;subst q1 q2 q3;exact .emp a .nil
    |succ i=>exact h5 i es hd F (by simpa[ZK]using q1) (by simpa using q2) (by simpa using q3)
  | @arr es b sz cap ccs ty xs vs F' F hB hne hsz hcap hh hsize hx h ih1 ih2=>
    obtain⟨hs,Fs,h1,h2,h3,h4,h5⟩:=ih2
    refine⟨.slice (some ⟨b,0,none⟩) es.length cap::hs,(b::F')::Fs,by simp[ZK,h1],by simp[h2],by simp[h3],by simp[ZAJ,h4],fun i es' hd F q1 q2 q3=> ?_⟩
    cases i with
    |zero=>
      simp[ZK]at q1 q2 q3;subst q1 q2 q3
      have:=DVs.arr (B:=B) (w:=w) es b sz cap ccs ty hB hne hsz hcap hh hsize hx .nil
      simpa using this
    |succ i=>exact h5 i es' hd F (by simpa[ZK]using q1) (by simpa using q2) (by simpa using q3)
end
end Go.Vl
