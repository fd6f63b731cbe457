/- The value-level layer, part 25: the program's data as one Lean type. -/
import Derived.Test.YtojdombnghnbmaaVlF
import Derived.Test.YtojdombnghnbmaaVlFits
set_option linter.unusedSimpArgs false
set_option linter.unusedVariables false
namespace Go.Vl
open Go Go.RowKit
inductive D where
 |int (n:Int)
 |bool (b:Bool)
 |str (s:ByteArray)
 |list (es:List D)
 |struct (fs:List D)
mutual
def D.cells :D→List AV
 | .int n=>[.lit (.int .i64 n)]
 | .bool b=>[.lit (.bool b)]
 | .str s=>[.lit (.string s)]
 | .list es=>[.arr (D.cellss es)]
 | .struct fs=>D.flat fs
def D.cellss :List D→List (List AV)
 | []=>[]
 |k::r=>k.cells::D.cellss r
def D.flat :List D→List AV
 | []=>[]
 |k::r=>k.cells++D.flat r
end
theorem D.cellss_eq :∀l:List D,D.cellss l=l.map D.cells
 | []=>by rw[D.cellss];rfl
 |k::r=>by rw[D.cellss,D.cellss_eq r];rfl
@[simp] theorem D.cells_int (n:Int):(D.int n).cells=[.lit (.int .i64 n)]:=by rw[D.cells]
@[simp] theorem D.cells_bool (b:Bool):(D.bool b).cells=[.lit (.bool b)]:=by rw[D.cells]
@[simp] theorem D.cells_str (s:ByteArray):(D.str s).cells=[.lit (.string s)]:=by rw[D.cells]
@[simp] theorem D.cells_list (es:List D):(D.list es).cells=[.arr (es.map D.cells)]:=by rw[D.cells,D.cellss_eq]
@[simp] theorem D.cells_struct (fs:List D):(D.struct fs).cells=D.flat fs:=by rw[D.cells]
@[simp] theorem D.flat_nil :D.flat []=[]:=by rw[D.flat]
@[simp] theorem D.flat_cons (k:D)(r:List D):D.flat (k::r)=k.cells++D.flat r:=by rw[D.flat]
mutual
def D.wt :D→Nat
 | .int _=>0
 | .bool _=>0
 | .str s=>s.size
 | .list es=>es.length+D.wts es
 | .struct fs=>D.wts fs
def D.wts :List D→Nat
 | []=>0
 |k::r=>k.wt+D.wts r
end
@[simp] theorem D.wt_int (n:Int):(D.int n).wt=0:=by rw[D.wt]
@[simp] theorem D.wt_bool (b:Bool):(D.bool b).wt=0:=by rw[D.wt]
@[simp] theorem D.wt_str (s:ByteArray):(D.str s).wt=s.size:=by rw[D.wt]
@[simp] theorem D.wt_list (es:List D):(D.list es).wt=es.length+D.wts es:=by rw[D.wt]
@[simp] theorem D.wt_struct (fs:List D):(D.struct fs).wt=D.wts fs:=by rw[D.wt]
@[simp] theorem D.wts_nil :D.wts []=0:=by rw[D.wts]
@[simp] theorem D.wts_cons (k:D)(r:List D):D.wts (k::r)=k.wt+D.wts r:=by rw[D.wts]
inductive DTy where
 |int
 |bool
 |str
 |list (t:DTy)
 |named (i:Nat)
 deriving DecidableEq
def tyDef :Nat→List DTy
 | 0 => [.int, .int]                                              -- Type
 | 1 => [.str, .list (.named 0), .int]                            -- Ctor
 | 2 => [.str, .list (.named 1)]                                  -- Data
 | 3 => [.int, .int, .list (.named 3)]                            -- Value
 | 4 => [.int, .int, .int, .int, .int, .list (.named 4)]          -- Pattern
 | 5 => [.int, .int, .int]                                        -- Guard
 | 6 => [.named 4, .named 5]                                      -- Clause
 | 7 => [.named 0, .named 0]                                      -- FunType
 | 8 => [.int, .named 0]                                          -- VarType
 | 9 => [.int, .int, .int, .list (.named 9)]                      -- Expr
 | 10 => [.named 7, .list (.named 6), .list (.named 9)]           -- Fun
 | 11 => [.int, .named 3]                                         -- Bind
 | 12 => [.int, .list .int]                                       -- PathBind
 | 13 => [.int, .int, .int, .named 14]                            -- Branch
 | 14 => [.int, .int, .list (.named 12), .list .int, .list (.named 13), .list (.named 14)]  -- Tree
 | 15 => [.int, .int, .int, .int]                                 -- Edge
 | 16 => [.int, .int, .list (.named 12), .list .int, .list (.named 15), .int]  -- Node
 | 17 => [.int, .list .int, .int, .int, .int, .int, .list (.named 12), .int]   -- Step
 |_=>[]
mutual
inductive Is :DTy→D→Prop
 |int (n:Int) (h:(Lit.int .i64 n).wf=true):Is .int (.int n)
 |bool (b:Bool):Is .bool (.bool b)
 |str (s:ByteArray) (h:s.size≤maxLen):Is .str (.str s)
 |list (t:DTy) (es:List D) (h:es.length≤maxLen) (hx:IsL t es):Is (.list t) (.list es)
 |named (i:Nat) (fs:List D) (h:IsA (tyDef i) fs):Is (.named i) (.struct fs)
inductive IsL :DTy→List D→Prop
 |nil (t:DTy):IsL t []
 |cons (t:DTy) (d:D) (r:List D) (h:Is t d) (hr:IsL t r):IsL t (d::r)
inductive IsA :List DTy→List D→Prop
 |nil:IsA [] []
 |cons (t:DTy) (ts:List DTy) (d:D) (r:List D) (h:Is t d) (hr:IsA ts r):IsA (t::ts) (d::r)
end
theorem IsL.get {t:DTy}{es:List D}(h:IsL t es):∀e,e∈es→Is t e:=by
 induction es with
 |nil=>intro e he;cases he
 |cons a r ih=>
  cases h with
  |cons _ _ _ h1 h2=>
   intro e he
   rcases List.mem_cons.1 he with rfl|he
   ·exact h1
   ·exact ih h2 e he
theorem IsL.of {t:DTy}:∀{es:List D},(∀e,e∈es→Is t e)→IsL t es
 | [],_=>.nil t
 |a::r,h=>.cons t a r (h a (by simp)) (IsL.of fun e he=>h e (List.mem_cons_of_mem _ he))
def DTy.sz :DTy→Nat
 | .int| .bool| .str| .list _=>1
 | .named 0=>2| .named 1=>3| .named 2=>2| .named 3=>3| .named 4=>6| .named 5=>3| .named 6=>9| .named 7=>4| .named 8=>3| .named 9=>4| .named 10=>6
 | .named 11=>4| .named 12=>2| .named 13=>9| .named 14=>6| .named 15=>4| .named 16=>6| .named 17=>8
 | .named _=>0
def szs :List DTy→Nat
 | []=>0
 |t::r=>t.sz+szs r
theorem szs_def :∀i,szs (tyDef i)=(DTy.named i).sz
 |0|1|2|3|4|5|6|7|8|9|10|11|12|13|14|15|16|17=>rfl
 |n+18=>rfl
mutual
theorem Is.len :∀{t:DTy} {d:D},Is t d→d.cells.length=t.sz
 |_,_,.int n _=>by simp[DTy.sz]
 |_,_,.bool b=>by simp[DTy.sz]
 |_,_,.str s h=>by simp[DTy.sz]
 |_,_,.list t es h hx=>by simp[DTy.sz]
 |_,_,.named i fs h=>by rw[D.cells_struct,IsA.len h,szs_def]
theorem IsA.len :∀{ts:List DTy} {fs:List D},IsA ts fs→(D.flat fs).length=szs ts
 |_,_,.nil=>by simp[szs]
 |_,_,.cons t ts d r h hr=>by simp[szs,Is.len h,IsA.len hr]
end
theorem closeds_append (n:Nat):∀(a b:List AV),AV.closed.closeds n (a++b)↔AV.closed.closeds n a∧AV.closed.closeds n b
 | [],b=>by simp[AV.closed.closeds]
 |x::r,b=>by simp[AV.closed.closeds,closeds_append n r b,and_assoc]
theorem pures_append :∀(a b:List AV),AV.pure.pures (a++b)↔AV.pure.pures a∧AV.pure.pures b
 | [],b=>by simp[AV.pure.pures]
 |x::r,b=>by simp[AV.pure.pures,pures_append r b,and_assoc]
theorem allOk1_append (σ:Store):∀(a b:List AV),allOk1 σ (a++b)↔allOk1 σ a∧allOk1 σ b
 | [],b=>by simp[allOk1]
 |x::r,b=>by simp[allOk1,allOk1_append σ r b,and_assoc]
mutual
theorem D.closeds (n:Nat):∀d:D,AV.closed.closeds n d.cells
 | .int _=>by simp[AV.closed.closeds,AV.closed]
 | .bool _=>by simp[AV.closed.closeds,AV.closed]
 | .str _=>by simp[AV.closed.closeds,AV.closed]
 | .list _=>by simp[AV.closed.closeds,AV.closed]
 | .struct fs=>by rw[D.cells_struct];exact D.closeds' n fs
theorem D.closeds' (n:Nat):∀fs:List D,AV.closed.closeds n (D.flat fs)
 | []=>by simp[AV.closed.closeds]
 |k::r=>by rw[D.flat_cons,closeds_append];exact⟨D.closeds n k,D.closeds' n r⟩
end
mutual
theorem D.pures :∀d:D,AV.pure.pures d.cells
 | .int _=>by simp[AV.pure.pures,AV.pure]
 | .bool _=>by simp[AV.pure.pures,AV.pure]
 | .str _=>by simp[AV.pure.pures,AV.pure]
 | .list _=>by simp[AV.pure.pures,AV.pure]
 | .struct fs=>by rw[D.cells_struct];exact D.pures' fs
theorem D.pures' :∀fs:List D,AV.pure.pures (D.flat fs)
 | []=>by simp[AV.pure.pures]
 |k::r=>by rw[D.flat_cons,pures_append];exact⟨D.pures k,D.pures' r⟩
end
mutual
theorem D.ok1s (σ:Store):∀d:D,allOk1 σ d.cells
 | .int _=>by simp[allOk1,ok1,oneV]
 | .bool _=>by simp[allOk1,ok1,oneV]
 | .str _=>by simp[allOk1,ok1,oneV]
 | .list _=>by simp[allOk1,ok1]
 | .struct fs=>by rw[D.cells_struct];exact D.ok1s' σ fs
theorem D.ok1s' (σ:Store):∀fs:List D,allOk1 σ (D.flat fs)
 | []=>by simp[allOk1]
 |k::r=>by rw[D.flat_cons,allOk1_append];exact⟨D.ok1s σ k,D.ok1s' σ r⟩
end
attribute [simp] D.closeds D.closeds' D.pures D.pures' D.ok1s D.ok1s'
def repOf (R:List (TypeId×DTy))(t:TypeId):Option DTy:=(R.find? fun p=>p.1==t).map (·.2)
def repFields (P:Program)(R:List (TypeId×DTy)):Nat→List Field→List DTy→Bool
 |_,[],[]=>true
 |o,f::fs,t::ts=>f.offset==o&& repOf R f.type==some t&& repFields P R (o+P.cellsOf f.type) fs ts
 |_,_,_=>false
def repM (P:Program)(R:List (TypeId×DTy))(u:Option TypeDesc)(ty:DTy):Bool:=match u,ty with
 |some (.int .i64),.int=>true
 |some .bool,.bool=>true
 |some .string,.str=>true
 |some (.slice e),.list t=>repOf R e==some t
 |some (.struct fs),.named i=>repFields P R 0 fs.toList (tyDef i)
 |_,_=>false
def repB (P:Program)(R:List (TypeId×DTy)):Bool:=R.all fun p=>P.cellsOf p.1==p.2.sz&& repM P R (P.underlying p.1) p.2
theorem repOf_mem {R:List (TypeId×DTy)}{t:TypeId}{ty:DTy}(h:repOf R t=some ty):(t,ty)∈R:=by
 unfold repOf at h
 rw[Option.map_eq_some_iff]at h
 obtain⟨p,h1,rfl⟩:=h
 have h2:=List.find?_some h1
 have h3:=List.mem_of_find?_eq_some h1
 simp only[beq_iff_eq]at h2
 subst h2;exact h3
theorem repB_spec {P:Program}{R:List (TypeId×DTy)}(h:repB P R=true){t:TypeId}{ty:DTy}(ht:repOf R t=some ty):P.cellsOf t=ty.sz∧repM P R (P.underlying t) ty=true:=by
 unfold repB at h
 have:=List.all_eq_true.1 h _ (repOf_mem ht)
 rw[Bool.and_eq_true,beq_iff_eq]at this
 exact this
theorem rep_fields {P:Program}{R:List (TypeId×DTy)}(hR:repB P R=true){cs:List AV}:∀(fs:List Field) (tys:List DTy) (o:Nat),repFields P R o fs tys=true→o+szs tys=cs.length→
  (∀f,f∈fs→∀ty,repOf R f.type=some ty→∃d,(cs.drop f.offset).take (P.cellsOf f.type)=D.cells d∧Is ty d)→∃ds,IsA tys ds∧cs.drop o=D.flat ds
 | [],[],o,_,ho,_=>⟨[],.nil,by rw[D.flat_nil,List.drop_eq_nil_of_le (by simp[szs]at ho;omega)]⟩
 |f::fs,t::ts,o,h,ho,hx=>by
  simp only[repFields,Bool.and_eq_true,beq_iff_eq]at h
  obtain⟨⟨rfl,ht⟩,h2⟩:=h
  have hsz:=(repB_spec hR ht).1
  simp only[szs]at ho
  obtain⟨d,hd,hid⟩:=hx f (by simp) t ht
  obtain⟨ds,hds,hdr⟩:=rep_fields hR fs ts _ h2 (by omega) fun g hg=>hx g (List.mem_cons_of_mem _ hg)
  refine⟨d::ds,.cons t ts d ds hid hds,?_⟩
  rw[D.flat_cons,←hd,←hdr]
  have:=List.take_append_drop (P.cellsOf f.type) (cs.drop f.offset)
  rw[List.drop_drop]at this
  exact this.symm
 | [],_::_,_,h,_,_=>by simp[repFields]at h
 |_::_,[],_,h,_,_=>by simp[repFields]at h
theorem Is.of_typed {P:Program}{R:List (TypeId×DTy)}(hR:repB P R=true):∀(n:Nat) (t:TypeId) (ty:DTy) (cs:List AV),repOf R t=some ty→Typed P n t cs→∃d,cs=D.cells d∧Is ty d
 |0,_,_,_,_,h=>h.elim
 |n+1,t,ty,cs,ht,h=>by
  obtain⟨hsz,hm⟩:=repB_spec hR ht
  unfold Typed at h
  generalize hg:P.underlying t=u at hm h
  unfold repM at hm
  split at hm
  ·next=>obtain⟨i,rfl,hw⟩:=h;exact⟨.int i,by simp,.int i hw⟩
  ·next=>obtain⟨i,rfl⟩:=h;exact⟨.bool i,by simp,.bool i⟩
  ·next=>obtain⟨s,rfl,hs⟩:=h;exact⟨.str s,by simp,.str s hs⟩
  ·next e te=>
   obtain⟨es,rfl,hle,hes⟩:=h
   rw[beq_iff_eq]at hm
   have key:∀l:List (List AV),(∀x,x∈l→Typed P n e x)→∃ds:List D,l=ds.map D.cells∧IsL te ds:=by
    intro l
    induction l with
    |nil=>intro _;exact⟨[],rfl,.nil te⟩
    |cons x r ih=>
     intro hl
     obtain⟨d,hd,hid⟩:=Is.of_typed hR n e te x hm (hl x (by simp))
     obtain⟨ds,hds,hids⟩:=ih fun y hy=>hl y (List.mem_cons_of_mem _ hy)
     exact⟨d::ds,by simp[hd,hds],.cons te d ds hid hids⟩
   obtain⟨ds,rfl,hids⟩:=key es fun x hx=>(hes x hx).2
   exact⟨.list ds,by simp,.list te ds (by simpa using hle) hids⟩
  ·next fs i=>
   obtain⟨hl,hf⟩:=h
   obtain⟨ds,hds,hdr⟩:=rep_fields hR fs.toList (tyDef i) 0 hm (by rw[szs_def];omega) fun f hf' tf htf=>Is.of_typed hR n f.type tf _ htf (hf f hf')
   exact⟨.struct ds,by rw[D.cells_struct,←hdr,List.drop_zero],.named i ds hds⟩
  ·cases hm
theorem rem_rem {l:Int}(a b:Nat)(h:¬rem l a<0):rem (rem l a) b=rem l (a+b):=by
 simp only[rem]at h ⊢
 split at h
 ·split
  ·split<;>split<;>omega
  ·omega
 ·omega
theorem rem_lt {l:Int}(a b:Nat)(h:rem l a<0):rem l (a+b)= -1:=by
 simp only[rem]at h ⊢
 split at h
 ·omega
 ·split<;>omega
def DTy.flat :DTy→Bool
 | .int| .bool=>true
 | .named 0| .named 5| .named 7| .named 8| .named 15=>true
 |_=>false
mutual
theorem Is.wt0 :∀{t:DTy} {d:D},Is t d→t.flat=true→d.wt=0
 |_,_,.int n _,_=>by simp
 |_,_,.bool b,_=>by simp
 |_,_,.str s h,hf=>by simp[DTy.flat]at hf
 |_,_,.list t es h hx,hf=>by simp[DTy.flat]at hf
 |_,_,.named i fs h,hf=>by
  rw[D.wt_struct]
  refine IsA.wts0 h ?_
  unfold DTy.flat at hf
  split at hf<;>simp_all[tyDef,DTy.flat]
theorem IsA.wts0 :∀{ts:List DTy} {fs:List D},IsA ts fs→ts.all DTy.flat=true→D.wts fs=0
 |_,_,.nil,_=>by simp
 |_,_,.cons t ts d r h hr,hf=>by
  rw[List.all_cons,Bool.and_eq_true]at hf
  rw[D.wts_cons,Is.wt0 h hf.1,IsA.wts0 hr hf.2]
end
theorem IsL.wts0 {t:DTy}(hf:t.flat=true):∀{es:List D},IsL t es→D.wts es=0
 |_,.nil _=>by simp
 |_,.cons _ d r h hr=>by rw[D.wts_cons,h.wt0 hf,IsL.wts0 hf hr]
theorem rem_le {l:Int}(n:Nat)(h:0≤l):rem l n≤l:=by simp only[rem];split<;>omega
theorem rem_sub {l:Int}(n:Nat)(h:¬l-n<0):l-n=rem l n:=by simp only[rem];split<;>omega
theorem frz_pure :∀(a r:List AV),AV.pure.pures a→∀(σ:Store) (K:List AV→Store→Prop),frz σ (a++r) K=frz σ r fun r' σ'=>K (a++r') σ'
 | [],r,_,σ,K=>rfl
 |x::a,r,h,σ,K=>by
  have ih:=frz_pure a r h.2
  cases x with
  |own l n=>exact h.1.elim
  |_=>simp only[List.cons_append,frz];exact ih σ _
@[simp ↓] theorem frz_cells_app {d:D}{r:List AV}{σ:Store}{K:List AV→Store→Prop}{k:Box K}:frz σ (D.cells d++r) (hold K k)=frz σ r (hold (fun r' σ'=>K (D.cells d++r') σ') .mk):=
 frz_pure _ r (D.pures d) σ K
@[simp ↓] theorem frz_cells {d:D}{σ:Store}{K:List AV→Store→Prop}{k:Box K}:frz σ (D.cells d) (hold K k)=K (D.cells d) σ:=by
 have:=frz_pure (D.cells d) [] (D.pures d) σ K
 simp only[List.append_nil,frz]at this
 exact this
theorem take_step {α:Type}{xs ys:List α}{k:Nat}(h:xs.take k=ys.take k)(h1:k<xs.length)(h2:k<ys.length)(he:xs[k]=ys[k]):xs.take (k+1)=ys.take (k+1):=by
 rw[List.take_add_one,List.take_add_one,List.getElem?_eq_getElem h1,List.getElem?_eq_getElem h2,h,he]
end Go.Vl
