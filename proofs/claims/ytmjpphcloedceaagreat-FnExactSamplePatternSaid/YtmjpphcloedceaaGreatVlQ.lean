import Derived.Test.YtmjpphcloedceaaGreatVlG
set_option linter.all false
open List renaming sizeOf_lt_of_mem->zA,getElem?_eq_getElem->zB,drop_eq_nil_of_le->zC,drop_eq_getElem_cons->zD,mem_cons_of_mem->zE,getElem_mem->zF,take_succ_eq_append_getElem->zG,mem_cons->zH,map_cons->zI,take_of_length_le->zJ,take_add_one->zK,append_nil->zL
open Bool renaming and_eq_true->zM
open Option renaming bind_some->zN,bind_eq_bind->zO
open Nat renaming strongRecOn->zP
namespace Go.Vl
open Go Go.RowKit
open AV renaming closed->zQ,pure->zR
inductive D where
 |int (n:Int)
 |bool (b:Bool)
 |str (s:ByteArray)
 |list (es:List D)
 |struct (fs:List D)
mutual
def D.cells :D->List AV
 | .int n=>[.lit (.int .i64 n)]
 | .bool b=>[.lit (.bool b)]
 | .str s=>[.lit (.string s)]
 | .list es=>[.arr (D.cellss es)]
 | .struct fs=>D.flat fs
def D.cellss :List D->List (List AV)
 | []=>[]
 |k::r=>k.cells::D.cellss r
def D.flat :List D->List AV
 | []=>[]
 |k::r=>k.cells++D.flat r
end
theorem D.cellss_eq :∀l:List D,D.cellss l=l.map D.cells
 | []=>by rw[D.cellss];rfl
 |k::r=>by rw[D.cellss,D.cellss_eq r];rfl
@[simp] theorem D.cells_int (n:Int):(D.int n).cells=[.lit (.int .i64 n)]:=by rw[D.cells]
@[simp] theorem D.cells_bool (b:Bool):(D.bool b).cells=[.lit (.bool b)]:=by rw[D.cells]
@[simp] theorem D.cells_str (s:ByteArray):(D.str s).cells=[.lit (.string s)]:=by rw[D.cells]
@[simp] theorem D.cells_list (es:List D):(D.list es).cells=[.arr (es.map D.cells)]:=by rw[D.cells,D.cellss_eq]
@[simp] theorem D.cells_struct (fs:List D):(D.struct fs).cells=D.flat fs:=by rw[D.cells]
@[simp] theorem D.flat_nil :D.flat []=[]:=by rw[D.flat]
@[simp] theorem D.flat_cons (k:D)(r:List D):D.flat (k::r)=k.cells++D.flat r:=by rw[D.flat]
mutual
def D.wt :D->Nat
 | .int _=>0
 | .bool _=>0
 | .str s=>s.size
 | .list es=>es.length+D.wts es
 | .struct fs=>D.wts fs
def D.wts :List D->Nat
 | []=>0
 |k::r=>k.wt+D.wts r
end
@[simp] theorem D.wt_int (n:Int):(D.int n).wt=0:=by rw[D.wt]
@[simp] theorem D.wt_bool (b:Bool):(D.bool b).wt=0:=by rw[D.wt]
@[simp] theorem D.wt_str (s:ByteArray):(D.str s).wt=s.size:=by rw[D.wt]
@[simp] theorem D.wt_list (es:List D):(D.list es).wt=es.length+D.wts es:=by rw[D.wt]
@[simp] theorem D.wt_struct (fs:List D):(D.struct fs).wt=D.wts fs:=by rw[D.wt]
@[simp] theorem D.wts_nil :D.wts []=0:=by rw[D.wts]
@[simp] theorem D.wts_cons (k:D)(r:List D):D.wts (k::r)=k.wt+D.wts r:=by rw[D.wts]
inductive DTy where
 |int
 |bool
 |str
 |list (t:DTy)
 |named (i:Nat)
 deriving DecidableEq
def ZAd :Nat->List DTy
 | 0 => [.int, .int]                                              -- Type
 | 1 => [.str, .list (.named 0), .int]                            -- Ctor
 | 2 => [.str, .list (.named 1)]                                  -- Data
 | 3 => [.int, .int, .list (.named 3)]                            -- Value
 | 4 => [.int, .int, .int, .int, .int, .list (.named 4)]          -- Pattern
 | 5 => [.int, .int, .int]                                        -- Guard
 | 6 => [.named 4, .named 5]                                      -- Clause
 | 7 => [.named 0, .named 0]                                      -- FunType
 | 8 => [.int, .named 0]                                          -- VarType
 | 9 => [.int, .int, .int, .list (.named 9)]                      -- Expr
 | 10 => [.named 7, .list (.named 6), .list (.named 9)]           -- Fun
 | 11 => [.int, .named 3]                                         -- Bind
 | 12 => [.int, .list .int]                                       -- PathBind
 | 13 => [.int, .int, .int, .named 14]                            -- Branch
 | 14 => [.int, .int, .list (.named 12), .list .int, .list (.named 13), .list (.named 14)]  -- Tree
 | 15 => [.int, .int, .int, .int]                                 -- Edge
 | 16 => [.int, .int, .list (.named 12), .list .int, .list (.named 15), .int]  -- Node
 | 17 => [.int, .list .int, .int, .int, .int, .int, .list (.named 12), .int]   -- Step
 |_=>[]
mutual
inductive Is :DTy->D->Prop
 |int (n:Int) (h:(Lit.int .i64 n).wf=true):Is .int (.int n)
 |bool (b:Bool):Is .bool (.bool b)
 |str (s:ByteArray) (h:s.size<=maxLen):Is .str (.str s)
 |list (t:DTy) (es:List D) (h:es.length<=maxLen) (hx:IsL t es):Is (.list t) (.list es)
 |named (i:Nat) (fs:List D) (h:IsA (ZAd i) fs):Is (.named i) (.struct fs)
inductive IsL :DTy->List D->Prop
 |nil (t:DTy):IsL t []
 |cons (t:DTy) (d:D) (r:List D) (h:Is t d) (hr:IsL t r):IsL t (d::r)
inductive IsA :List DTy->List D->Prop
 |nil:IsA [] []
 |cons (t:DTy) (ts:List DTy) (d:D) (r:List D) (h:Is t d) (hr:IsA ts r):IsA (t::ts) (d::r)
end
theorem IsL.get {t:DTy}{es:List D}(h:IsL t es):∀e,e∈es->Is t e:=by
 induction es with
 |nil=>intro e he;cases he
 |cons a r ih=>
  cases h with
  |cons _ _ _ h1 h2=>
   intro e he
   rcases zH.1 he with rfl|he
   ·exact h1
   ·exact ih h2 e he
theorem IsL.of {t:DTy}:∀{es:List D},(∀e,e∈es->Is t e)->IsL t es
 | [],_=>.nil t
 |a::r,h=>.cons t a r (h a (by simp)) (IsL.of fun e he=>h e (zE _ he))
def DTy.sz :DTy->Nat
 | .int| .bool| .str| .list _=>1
 | .named 0=>2| .named 1=>3| .named 2=>2| .named 3=>3| .named 4=>6| .named 5=>3| .named 6=>9| .named 7=>4| .named 8=>3| .named 9=>4| .named 10=>6
 | .named 11=>4| .named 12=>2| .named 13=>9| .named 14=>6| .named 15=>4| .named 16=>6| .named 17=>8
 | .named _=>0
def szs :List DTy->Nat
 | []=>0
 |t::r=>t.sz+szs r
theorem ZIk :∀i,szs (ZAd i)=(DTy.named i).sz
 |0|1|2|3|4|5|6|7|8|9|10|11|12|13|14|15|16|17=>rfl
 |n+18=>rfl
mutual
theorem Is.len :∀{t:DTy} {d:D},Is t d->d.cells.length=t.sz
 |_,_,.int n _=>by simp[DTy.sz]
 |_,_,.bool b=>by simp[DTy.sz]
 |_,_,.str s h=>by simp[DTy.sz]
 |_,_,.list t es h hx=>by simp[DTy.sz]
 |_,_,.named i fs h=>by rw[D.cells_struct,IsA.len h,ZIk]
theorem IsA.len :∀{ts:List DTy} {fs:List D},IsA ts fs->(D.flat fs).length=szs ts
 |_,_,.nil=>by simp[szs]
 |_,_,.cons t ts d r h hr=>by simp[szs,Is.len h,IsA.len hr]
end
theorem ZBv (n:Nat):∀(a b:List AV),zQ.closeds n (a++b)↔zQ.closeds n a/\zQ.closeds n b
 | [],b=>by simp[zQ.closeds]
 |x::r,b=>by simp[zQ.closeds,ZBv n r b,and_assoc]
theorem ZCx :∀(a b:List AV),zR.pures (a++b)↔zR.pures a/\zR.pures b
 | [],b=>by simp[zR.pures]
 |x::r,b=>by simp[zR.pures,ZCx r b,and_assoc]
theorem ZCW (σ:ZE):∀(a b:List AV),Zf σ (a++b)↔Zf σ a/\Zf σ b
 | [],b=>by simp[Zf]
 |x::r,b=>by simp[Zf,ZCW σ r b,and_assoc]
mutual
theorem D.closeds (n:Nat):∀d:D,zQ.closeds n d.cells
 | .int _=>by simp[zQ.closeds,zQ]
 | .bool _=>by simp[zQ.closeds,zQ]
 | .str _=>by simp[zQ.closeds,zQ]
 | .list _=>by simp[zQ.closeds,zQ]
 | .struct fs=>by rw[D.cells_struct];exact D.closeds' n fs
theorem D.closeds' (n:Nat):∀fs:List D,zQ.closeds n (D.flat fs)
 | []=>by simp[zQ.closeds]
 |k::r=>by rw[D.flat_cons,ZBv];exact⟨D.closeds n k,D.closeds' n r⟩
end
mutual
theorem D.pures :∀d:D,zR.pures d.cells
 | .int _=>by simp[zR.pures,zR]
 | .bool _=>by simp[zR.pures,zR]
 | .str _=>by simp[zR.pures,zR]
 | .list _=>by simp[zR.pures,zR]
 | .struct fs=>by rw[D.cells_struct];exact D.pures' fs
theorem D.pures' :∀fs:List D,zR.pures (D.flat fs)
 | []=>by simp[zR.pures]
 |k::r=>by rw[D.flat_cons,ZCx];exact⟨D.pures k,D.pures' r⟩
end
mutual
theorem D.ok1s (σ:ZE):∀d:D,Zf σ d.cells
 | .int _=>by simp[Zf,ok1,ZBX]
 | .bool _=>by simp[Zf,ok1,ZBX]
 | .str _=>by simp[Zf,ok1,ZBX]
 | .list _=>by simp[Zf,ok1]
 | .struct fs=>by rw[D.cells_struct];exact D.ok1s' σ fs
theorem D.ok1s' (σ:ZE):∀fs:List D,Zf σ (D.flat fs)
 | []=>by simp[Zf]
 |k::r=>by rw[D.flat_cons,ZCW];exact⟨D.ok1s σ k,D.ok1s' σ r⟩
end
attribute [simp] D.closeds D.closeds' D.pures D.pures' D.ok1s D.ok1s'
def ZGK (R:List (TypeId×DTy))(t:TypeId):Option DTy:=(R.find? fun p=>p.1==t).map (·.2)
def ZA3 (P:Program)(R:List (TypeId×DTy)):Nat->List Field->List DTy->Bool
 |_,[],[]=>true
 |o,f::fs,t::ts=>f.offset==o&& ZGK R f.type==some t&& ZA3 P R (o+P.cellsOf f.type) fs ts
 |_,_,_=>false
def ZPE (P:Program)(R:List (TypeId×DTy))(u:Option TypeDesc)(ty:DTy):Bool:=match u,ty with
 |some (.int .i64),.int=>true
 |some .bool,.bool=>true
 |some .string,.str=>true
 |some (.slice e),.list t=>ZGK R e==some t
 |some (.struct fs),.named i=>ZA3 P R 0 fs.toList (ZAd i)
 |_,_=>false
def ZNQ (P:Program)(R:List (TypeId×DTy)):Bool:=R.all fun p=>P.cellsOf p.1==p.2.sz&& ZPE P R (P.underlying p.1) p.2
variable {R:List (TypeId×DTy)}
theorem ZIs {t:TypeId}{ty:DTy}(h:ZGK R t=some ty):(t,ty)∈R:=by
 unfold ZGK at h
 rw[Option.map_eq_some_iff]at h
 obtain⟨p,h1,rfl⟩:=h
 have h2:=List.find?_some h1
 have h3:=List.mem_of_find?_eq_some h1
 simp only[beq_iff_eq]at h2
 subst h2;exact h3
theorem ZFB {P:Program}(h:ZNQ P R=true){t:TypeId}{ty:DTy}(ht:ZGK R t=some ty):P.cellsOf t=ty.sz/\ZPE P R (P.underlying t) ty=true:=by
 unfold ZNQ at h
 have:=List.all_eq_true.1 h _ (ZIs ht)
 rw[zM,beq_iff_eq]at this
 exact this
theorem ZEB {P:Program}{R:List (TypeId×DTy)}(hR:ZNQ P R=true){cs:List AV}:∀(fs:List Field) (tys:List DTy) (o:Nat),ZA3 P R o fs tys=true->o+szs tys=cs.length->
  (∀f,f∈fs->∀ty,ZGK R f.type=some ty->∃d,(cs.drop f.offset).take (P.cellsOf f.type)=D.cells d/\Is ty d)->∃ds,IsA tys ds/\cs.drop o=D.flat ds
 | [],[],o,_,ho,_=>⟨[],.nil,by rw[D.flat_nil,zC (by simp[szs]at ho;omega)]⟩
 |f::fs,t::ts,o,h,ho,hx=>by
  simp only[ZA3,zM,beq_iff_eq]at h
  obtain⟨⟨rfl,ht⟩,h2⟩:=h
  have hsz:=(ZFB hR ht).1
  simp only[szs]at ho
  obtain⟨d,hd,hid⟩:=hx f (by simp) t ht
  obtain⟨ds,hds,hdr⟩:=ZEB hR fs ts _ h2 (by omega) fun g hg=>hx g (zE _ hg)
  refine⟨d::ds,.cons t ts d ds hid hds,?_⟩
  rw[D.flat_cons,←hd,←hdr]
  have:=List.take_append_drop (P.cellsOf f.type) (cs.drop f.offset)
  rw[List.drop_drop]at this
  exact this.symm
 | [],_::_,_,h,_,_=>by simp[ZA3]at h
 |_::_,[],_,h,_,_=>by simp[ZA3]at h
theorem Is.of_typed {P:Program}{R:List (TypeId×DTy)}(hR:ZNQ P R=true):∀(n:Nat) (t:TypeId) (ty:DTy) (cs:List AV),ZGK R t=some ty->ZAh P n t cs->∃d,cs=D.cells d/\Is ty d
 |0,_,_,_,_,h=>h.elim
 |n+1,t,ty,cs,ht,h=>by
  obtain⟨hsz,hm⟩:=ZFB hR ht
  unfold ZAh at h
  generalize hg:P.underlying t=u at hm h
  unfold ZPE at hm
  split at hm
  ·next=>obtain⟨i,rfl,hw⟩:=h;exact⟨.int i,by simp,.int i hw⟩
  ·next=>obtain⟨i,rfl⟩:=h;exact⟨.bool i,by simp,.bool i⟩
  ·next=>obtain⟨s,rfl,hs⟩:=h;exact⟨.str s,by simp,.str s hs⟩
  ·next e te=>
   obtain⟨es,rfl,hle,hes⟩:=h
   rw[beq_iff_eq]at hm
   have key:∀l:List (List AV),(∀x,x∈l->ZAh P n e x)->∃ds:List D,l=ds.map D.cells/\IsL te ds:=by
    intro l
    induction l with
    |nil=>intro _;exact⟨[],rfl,.nil te⟩
    |cons x r ih=>
     intro hl
     obtain⟨d,hd,hid⟩:=Is.of_typed hR n e te x hm (hl x (by simp))
     obtain⟨ds,hds,hids⟩:=ih fun y hy=>hl y (zE _ hy)
     exact⟨d::ds,by simp[hd,hds],.cons te d ds hid hids⟩
   obtain⟨ds,rfl,hids⟩:=key es fun x hx=>(hes x hx).2
   exact⟨.list ds,by simp,.list te ds (by simpa using hle) hids⟩
  ·next fs i=>
   obtain⟨hl,hf⟩:=h
   obtain⟨ds,hds,hdr⟩:=ZEB hR fs.toList (ZAd i) 0 hm (by rw[ZIk];omega) fun f hf' tf htf=>Is.of_typed hR n f.type tf _ htf (hf f hf')
   exact⟨.struct ds,by rw[D.cells_struct,←hdr,List.drop_zero],.named i ds hds⟩
  ·cases hm
variable {l:Int}
theorem ZCe (a b:Nat)(h:¬rem l a<0):rem (rem l a) b=rem l (a+b):=by
 simp only[rem]at h ⊢
 split at h
 ·split
  ·split<;>split<;>omega
  ·omega
 ·omega
theorem ZNR (a b:Nat)(h:rem l a<0):rem l (a+b)= -1:=by
 simp only[rem]at h ⊢
 split at h
 ·omega
 ·split<;>omega
def DTy.flat :DTy->Bool
 | .int| .bool=>true
 | .named 0| .named 5| .named 7| .named 8| .named 15=>true
 |_=>false
mutual
theorem Is.wt0 :∀{t:DTy} {d:D},Is t d->t.flat=true->d.wt=0
 |_,_,.int n _,_=>by simp
 |_,_,.bool b,_=>by simp
 |_,_,.str s h,hf=>by simp[DTy.flat]at hf
 |_,_,.list t es h hx,hf=>by simp[DTy.flat]at hf
 |_,_,.named i fs h,hf=>by
  rw[D.wt_struct]
  refine IsA.wts0 h ?_
  unfold DTy.flat at hf
  split at hf<;>simp_all[ZAd,DTy.flat]
theorem IsA.wts0 :∀{ts:List DTy} {fs:List D},IsA ts fs->ts.all DTy.flat=true->D.wts fs=0
 |_,_,.nil,_=>by simp
 |_,_,.cons t ts d r h hr,hf=>by
  rw[List.all_cons,zM]at hf
  rw[D.wts_cons,Is.wt0 h hf.1,IsA.wts0 hr hf.2]
end
theorem IsL.wts0 {t:DTy}(hf:t.flat=true):∀{es:List D},IsL t es->D.wts es=0
 |_,.nil _=>by simp
 |_,.cons _ d r h hr=>by rw[D.wts_cons,h.wt0 hf,IsL.wts0 hf hr]
theorem ZDM (n:Nat)(h:0<=l):rem l n<=l:=by simp only[rem];split<;>omega
theorem ZBF (n:Nat)(h:¬l-n<0):l-n=rem l n:=by simp only[rem];split<;>omega
theorem ZEs :∀(a r:List AV),zR.pures a->∀(σ:ZE) (K:List AV->ZE->Prop),frz σ (a++r) K=frz σ r fun r' σ'=>K (a++r') σ'
 | [],r,_,σ,K=>rfl
 |x::a,r,h,σ,K=>by
  have ih:=ZEs a r h.2
  cases x with
  |own l n=>exact h.1.elim
  |_=>simp only[List.cons_append,frz];exact ih σ _
variable {K:List AV->ZE->Prop}
@[simp ↓] theorem ZKu {d:D}{r:List AV}{σ:ZE}{k:Box K}:frz σ (D.cells d++r) (hold K k)=frz σ r (hold (fun r' σ'=>K (D.cells d++r') σ') .mk):=
 ZEs _ r (D.pures d) σ K
@[simp ↓] theorem ZOS {d:D}{σ:ZE}{k:Box K}:frz σ (D.cells d) (hold K k)=K (D.cells d) σ:=by
 have:=ZEs (D.cells d) [] (D.pures d) σ K
 simp only[zL,frz]at this
 exact this
theorem ZIj {α:Type}{xs ys:List α}{k:Nat}(h:xs.take k=ys.take k)(h1:k<xs.length)(h2:k<ys.length)(he:xs[k]=ys[k]):xs.take (k+1)=ys.take (k+1):=by
 rw[zK,zK,zB h1,zB h2,h,he]
end Go.Vl
namespace Go.Vl
open Go Go.RowKit
open PathBind renaming c->zS
def wtL {α:Type}(f:α->Nat)(xs:List α):Nat:=xs.length+(xs.map f).sum
variable {α:Type}
theorem ZCu (f:α->Nat)(xs:List α):wtL f xs=xs.length+(xs.map f).sum:=rfl
def okL {α:Type}(Q:α->Prop)(xs:List α):Prop:=xs.length<=maxLen/\∀x,x∈xs->Q x
@[simp] theorem ZO6 (f:α->Nat):wtL f []=0:=rfl
@[simp] theorem ZT (f:α->Nat)(x:α)(r:List α):wtL f (x::r)=1+f x+wtL f r:=by simp[wtL];omega
theorem ZAz (f:α->Nat){x:α}{xs:List α}(h:x∈xs):1+f x<=wtL f xs:=by
  induction xs with
  |nil=>cases h
  | cons a r ih => rcases zH.1 h with rfl | h
                   · simp
                   · have:=ih h;simp;omega
theorem ZCZ (f:α->Nat)(xs:List α):xs.length<=wtL f xs:=by simp[wtL]
theorem ZIf (xs:List Int):wtL (fun _=>0) xs=xs.length:=by induction xs with|nil=>rfl|cons a r ih=>simp[ih];omega
def inR (n:Int):Prop:= -9223372036854775808<=n/\n<=9223372036854775807
theorem Is.int_inv {d:D}(h:Is .int d):∃n,d=.int n/\inR n:=by
  cases h with
  |int n hw=>
    refine⟨n,rfl,?_⟩
    simp only[Lit.wf,zM,decide_eq_true_eq]at hw
    exact hw
theorem Is.str_inv {d:D}(h:Is .str d):∃s,d=.str s/\s.size<=maxLen:=by cases h with|str s h=>exact⟨s,rfl,h⟩
theorem Is.list_inv {t:DTy}{d:D}(h:Is (.list t) d):∃es,d=.list es/\es.length<=maxLen/\IsL t es:=by cases h with|list t es h hx=>exact⟨es,rfl,h,hx⟩
theorem Is.named_inv {i:Nat}{d:D}(h:Is (.named i) d):∃fs,d=.struct fs/\IsA (ZAd i) fs:=by cases h with|named i fs h=>exact⟨fs,rfl,h⟩
theorem IsA.nil_inv {ds:List D}(h:IsA [] ds):ds=[]:=by cases h;rfl
theorem IsA.cons_inv {t:DTy}{ts:List DTy}{ds:List D}(h:IsA (t::ts) ds):∃d r,ds=d::r/\Is t d/\IsA ts r:=by cases h with|cons t ts d r h hr=>exact⟨d,r,rfl,h,hr⟩
theorem Za {c:α->List AV}{Q:α->Prop}{t:DTy}{es:List D}(h:IsL t es)(hl:es.length<=maxLen)(hx:∀e,e∈es->Is t e->∃x,c x=e.cells/\Q x):∃xs:List α,xs.map c=es.map D.cells/\okL Q xs:=by
  have:∃xs:List α,xs.map c=es.map D.cells/\xs.length=es.length/\∀x,x∈xs->Q x:=by
    clear hl
    induction es with
    |nil=>exact⟨[],rfl,rfl,fun x hx=>by cases hx⟩
    |cons a r ih=>
      cases h with
      |cons _ _ _ h1 h2=>
        obtain⟨x,c1,q1⟩:=hx a (by simp) h1
        obtain⟨xs,c2,l2,q2⟩:=ih h2 fun e he=>hx e (zE _ he)
        refine⟨x::xs,by simp[c1,c2],by simp[l2],fun y hy=> ?_⟩
        rcases zH.1 hy with rfl|hy
        · exact q1
        · exact q2 y hy
  obtain⟨xs,h1,h2,h3⟩:=this
  exact⟨xs,h1,by omega,h3⟩
theorem ZCO {es:List D}(h:IsL .int es)(hl:es.length<=maxLen):∃xs:List Int,xs.map cI=es.map D.cells/\okL inR xs:=
  Za h hl fun e _ hi=>by obtain⟨n,rfl,hn⟩:=hi.int_inv;exact⟨n,by simp,hn⟩
variable {a:List α}
theorem ZIl {wt:α -> Nat}{f:α -> Int -> Option Int}{L:Int -> Nat -> Option (Lo Int Int)}(hL:∀l i,L l i=if i<a.length then a[i]? >>=fun x=>f x l>>=fun v=>if v<0 then some (.ret (-1))else L v (i+1)else some (.go l))(hf:∀x,x∈a->∀l:Int,0<=l->l<=1048576->f x l=some (rem l (wt x))):∀(m i:Nat) (l:Int),a.length-i=m->0<=l->l<=1048576->
    L l i=some (if rem l ((a.drop i).map wt).sum<0 then .ret (-1)else .go (rem l ((a.drop i).map wt).sum)):=by
  intro m
  induction m with
  |zero=>
    intro i l hm h0 h1
    rw[hL,iN (by omega),zC (by omega)]
    have:rem l 0=l:=by rw[ZLn (by omega)];omega
    simp[this];omega
  |succ m ih=>
    intro i l hm h0 h1
    have hi:i<a.length:=by omega
    rw[hL,iP hi,zB hi,zD hi]
    simp only[zI,List.sum_cons,zO,zN]
    rw[hf _ (zF hi) l h0 h1]
    simp only[zN]
    by_cases h:rem l (wt a[i])<0
    · rw[iP h,ZNR _ _ h];simp
    · rw[iN h,ih (i+1) _ (by omega) (by omega) (Int.le_trans (ZDM _ h0) h1),ZCe _ _ h]
theorem ZHB {f:α -> Option α}{L:List α -> Nat -> Option (List α)}(hL:∀out i,L out i=if i<a.length then a[i]? >>=fun x=>f x>>=fun v=>out[i]? >>=fun _=>L (out.set i v) (i+1)else some out)(hf:∀x,x∈a->f x=some x):∀(m i:Nat) (out:List α),a.length-i=m->out.length=a.length->out.take i=a.take i->L out i=some a:=by
  intro m
  induction m with
  |zero=>
    intro i out hm hl ht
    rw[hL,iN (by omega)]
    rw[zJ (by omega),zJ (by omega)]at ht
    rw[ht]
  |succ m ih=>
    intro i out hm hl ht
    have hi:i<a.length:=by omega
    rw[hL,iP hi,zB hi,zB (by omega)]
    simp only[zO,zN]
    rw[hf _ (zF hi)]
    simp only[zN]
    refine ih (i+1) _ (by omega) (by simp[hl]) ?_
    refine ZIj ?_ (by simp;omega) hi (by simp)
    rw[List.take_set_of_le (by omega),ht]
theorem ZFn {b:List α}{f:α -> α -> Option Bool}{L:Nat -> Option (Lo Bool Unit)}(hL:∀i,L i=if i<a.length then a[i]? >>=fun x=>b[i]? >>=fun y=>f x y>>=fun v=>if v=true then L (i+1)else some (.ret false)else some (.go ()))(hf:∀x,x∈a->∀y,f x y=some (dec (x=y)))(hl:a.length=b.length):∀(m i:Nat),a.length-i=m->L i=some (if dec (a.drop i=b.drop i)=true then .go ()else .ret false):=by
  intro m
  induction m with
  |zero=>
    intro i hm
    rw[hL,iN (by omega),zC (by omega),zC (by omega)]
    simp
  |succ m ih=>
    intro i hm
    have hi:i<a.length:=by omega
    have hj:i<b.length:=by omega
    rw[hL,iP hi,zB hi,zB hj,zD hi,zD hj]
    simp only[zO,zN,List.cons.injEq]
    rw[hf _ (zF hi)]
    simp only[zN]
    by_cases h:a[i]=b[i]
    · rw[iP (dec_of h),ih (i+1) (by omega)];simp[h]
    · rw[iN (by rw[ZD h];simp)];simp[h]
theorem ZJ9 {f:α->Nat}(h:∀x,f x=0)(xs:List α):wtL f xs=xs.length:=by
  induction xs with
  |nil=>rfl
  |cons a r ih=>simp[ih,h];omega
theorem ZV {p:Prop}:dec p=false↔¬p:=by
  constructor
  · intro h hp;rw[dec_of hp]at h;cases h
  · exact ZD
def Ty.wt (_:Ty):Nat:=0
structure Ty.Ok (x:Ty):Prop where
  data:inR x.data
  index:inR x.index
def Ctor.wt (x:Ctor):Nat:=x.name.size+wtL Ty.wt x.args
structure Ctor.Ok (x:Ctor):Prop where
  name:x.name.size<=maxLen
  args:okL Ty.Ok x.args
  index:inR x.index
def Data.wt (x:Data):Nat:=x.name.size+wtL Ctor.wt x.ctors
structure Data.Ok (x:Data):Prop where
  name:x.name.size<=maxLen
  ctors:okL Ctor.Ok x.ctors
def Value.wt :Value->Nat
  |⟨_,_,kids⟩=>kids.length+(kids.map fun k=>Value.wt k).sum
theorem Value.wt_eq (x:Value):x.wt=wtL Value.wt x.kids:=by cases x;rw[Value.wt,ZCu]
inductive Value.Ok :Value->Prop
  |mk (x:Value) (hctor:inR x.ctor) (hn:inR x.n) (h:x.kids.length<=maxLen) (hk:∀k,k∈x.kids->Value.Ok k):Value.Ok x
theorem Value.Ok.ctor {x:Value}(h:x.Ok):inR x.ctor:=by cases h;assumption
theorem Value.Ok.n {x:Value}(h:x.Ok):inR x.n:=by cases h;assumption
theorem Value.Ok.kids {x:Value}(h:x.Ok):okL Value.Ok x.kids:=by cases h with|mk _ _ _ h hk=>exact⟨h,hk⟩
theorem Value.ind {Q:Value->Prop}(h:∀x,(∀k,k∈x.kids->Q k)->Q x):∀x,Q x:=by
  intro x
  induction hn:SizeOf.sizeOf x using zP generalizing x with
  |_ n ih=>
    subst hn
    refine h x fun k hk=>ih _ ?_ k rfl
    have:=zA hk
    cases x
    simp at this ⊢
    omega
def Pattern.wt :Pattern->Nat
  |⟨_,_,_,_,_,kids⟩=>kids.length+(kids.map fun k=>Pattern.wt k).sum
theorem Pattern.wt_eq (x:Pattern):x.wt=wtL Pattern.wt x.kids:=by cases x;rw[Pattern.wt,ZCu]
inductive Pattern.Ok :Pattern->Prop
  |mk (x:Pattern) (hop:inR x.op) (hctor:inR x.ctor) (hn:inR x.n) (hm:inR x.m) (hvar:inR x.var) (h:x.kids.length<=maxLen) (hk:∀k,k∈x.kids->Pattern.Ok k):Pattern.Ok x
variable {x:Pattern}
theorem Pattern.Ok.op (h:x.Ok):inR x.op:=by cases h;assumption
theorem Pattern.Ok.ctor (h:x.Ok):inR x.ctor:=by cases h;assumption
theorem Pattern.Ok.n (h:x.Ok):inR x.n:=by cases h;assumption
theorem Pattern.Ok.m (h:x.Ok):inR x.m:=by cases h;assumption
theorem Pattern.Ok.var (h:x.Ok):inR x.var:=by cases h;assumption
theorem Pattern.Ok.kids (h:x.Ok):okL Pattern.Ok x.kids:=by cases h with|mk _ _ _ _ _ _ h hk=>exact⟨h,hk⟩
theorem Pattern.ind {Q:Pattern->Prop}(h:∀x,(∀k,k∈x.kids->Q k)->Q x):∀x,Q x:=by
  intro x
  induction hn:SizeOf.sizeOf x using zP generalizing x with
  |_ n ih=>
    subst hn
    refine h x fun k hk=>ih _ ?_ k rfl
    have:=zA hk
    cases x
    simp at this ⊢
    omega
def Guard.wt (_:Guard):Nat:=0
structure Guard.Ok (x:Guard):Prop where
  op:inR x.op
  var:inR x.var
  n:inR x.n
def Clause.wt (x:Clause):Nat:=Pattern.wt x.pat+Guard.wt x.guard
structure Clause.Ok (x:Clause):Prop where
  pat:Pattern.Ok x.pat
  guard:Guard.Ok x.guard
def FunType.wt (x:FunType):Nat:=Ty.wt x.arg+Ty.wt x.res
structure FunType.Ok (x:FunType):Prop where
  arg:Ty.Ok x.arg
  res:Ty.Ok x.res
def VarType.wt (x:VarType):Nat:=Ty.wt x.type
structure VarType.Ok (x:VarType):Prop where
  var:inR x.var
  type:Ty.Ok x.type
def Expr.wt :Expr->Nat
  |⟨_,_,_,kids⟩=>kids.length+(kids.map fun k=>Expr.wt k).sum
theorem Expr.wt_eq (x:Expr):x.wt=wtL Expr.wt x.kids:=by cases x;rw[Expr.wt,ZCu]
inductive Expr.Ok :Expr->Prop
  |mk (x:Expr) (hop:inR x.op) (hn:inR x.n) (hctor:inR x.ctor) (h:x.kids.length<=maxLen) (hk:∀k,k∈x.kids->Expr.Ok k):Expr.Ok x
theorem Expr.Ok.op {x:Expr}(h:x.Ok):inR x.op:=by cases h;assumption
theorem Expr.Ok.n {x:Expr}(h:x.Ok):inR x.n:=by cases h;assumption
theorem Expr.Ok.ctor {x:Expr}(h:x.Ok):inR x.ctor:=by cases h;assumption
theorem Expr.Ok.kids {x:Expr}(h:x.Ok):okL Expr.Ok x.kids:=by cases h with|mk _ _ _ _ h hk=>exact⟨h,hk⟩
theorem Expr.ind {Q:Expr->Prop}(h:∀x,(∀k,k∈x.kids->Q k)->Q x):∀x,Q x:=by
  intro x
  induction hn:SizeOf.sizeOf x using zP generalizing x with
  |_ n ih=>
    subst hn
    refine h x fun k hk=>ih _ ?_ k rfl
    have:=zA hk
    cases x
    simp at this ⊢
    omega
def Fun.wt (x:Fun):Nat:=FunType.wt x.type+wtL Clause.wt x.clauses+wtL Expr.wt x.bodies
structure Fun.Ok (x:Fun):Prop where
  type:FunType.Ok x.type
  clauses:okL Clause.Ok x.clauses
  bodies:okL Expr.Ok x.bodies
def Bind.wt (x:Bind):Nat:=Value.wt x.value
structure Bind.Ok (x:Bind):Prop where
  var:inR x.var
  value:Value.Ok x.value
def PathBind.wt (x:PathBind):Nat:=wtL (fun _=>0) x.path
structure PathBind.Ok (x:PathBind):Prop where
  var:inR x.var
  path:okL inR x.path
def Tree.wt :Tree->Nat
  |⟨_,_,binds,path,branches,els⟩=>wtL PathBind.wt binds+path.length+(branches.length+(branches.attach.map fun⟨b,_⟩=>Tree.wt b.tree).sum)+(els.length+(els.attach.map fun⟨k,_⟩=>Tree.wt k).sum)
termination_by t=>SizeOf.sizeOf t
decreasing_by
  · rename_i h
    have:=zA h
    cases b
    simp at this ⊢
    omega
  · rename_i h
    have:=zA h
    simp
    omega
def Branch.wt (b:Branch):Nat:=b.tree.wt
theorem Tree.wt_eq (x:Tree):x.wt=wtL PathBind.wt x.binds+wtL (fun _=>0) x.path+wtL Branch.wt x.branches+wtL Tree.wt x.els:=by
  cases x
  rw[Tree.wt,ZCu Branch.wt,ZCu Tree.wt,ZIf]
  simp only[List.map_attach_eq_pmap,List.pmap_eq_map]
  rfl
inductive Tree.Ok :Tree->Prop
  |mk (x:Tree) (ho:inR x.op) (hc:inR x.clause) (hb:okL PathBind.Ok x.binds) (hp:okL inR x.path) (h1:x.branches.length<=maxLen) (h2:x.els.length<=maxLen) (hn:∀b,b∈x.branches->inR b.ctor/\inR b.n/\inR b.m) (hk:∀b,b∈x.branches->Tree.Ok b.tree) (he:∀k,k∈x.els->Tree.Ok k):Tree.Ok x
structure Branch.Ok (b:Branch):Prop where
  ctor:inR b.ctor
  n:inR b.n
  m:inR b.m
  tree:b.tree.Ok
theorem Tree.Ok.op {x:Tree}(h:x.Ok):inR x.op:=by cases h;assumption
theorem Tree.Ok.clause {x:Tree}(h:x.Ok):inR x.clause:=by cases h;assumption
theorem Tree.Ok.binds {x:Tree}(h:x.Ok):okL PathBind.Ok x.binds:=by cases h;assumption
theorem Tree.Ok.path {x:Tree}(h:x.Ok):okL inR x.path:=by cases h;assumption
theorem Tree.Ok.branches {x:Tree}(h:x.Ok):okL Branch.Ok x.branches:=by cases h with|mk _ _ _ _ _ h1 _ hn hk _=>exact⟨h1,fun b hb=>⟨(hn b hb).1,(hn b hb).2.1,(hn b hb).2.2,hk b hb⟩⟩
theorem Tree.Ok.els {x:Tree}(h:x.Ok):okL Tree.Ok x.els:=by cases h with|mk _ _ _ _ _ _ h2 _ _ he=>exact⟨h2,he⟩
theorem Tree.ind {Q:Tree->Prop}(h:∀x:Tree,(∀b:Branch,b∈x.branches->Q b.tree)->(∀k:Tree,k∈x.els->Q k)->Q x):∀x,Q x:=by
  intro x
  induction hn:SizeOf.sizeOf x using zP generalizing x with
  |_ n ih=>
    subst hn
    refine h x (fun b hb=>ih _ ?_ b.tree rfl) (fun k hk=>ih _ ?_ k rfl)
    · have:=zA hb
      cases x;cases b
      simp at this ⊢
      omega
    · have:=zA hk
      cases x
      simp at this ⊢
      omega
def Edge.wt (_:Edge):Nat:=0
structure Edge.Ok (x:Edge):Prop where
  ctor:inR x.ctor
  n:inR x.n
  m:inR x.m
  to:inR x.to
def Node.wt (x:Node):Nat:=wtL PathBind.wt x.binds+wtL (fun _=>0) x.path+wtL Edge.wt x.edges
structure Node.Ok (x:Node):Prop where
  op:inR x.op
  clause:inR x.clause
  binds:okL PathBind.Ok x.binds
  path:okL inR x.path
  edges:okL Edge.Ok x.edges
  els:inR x.els
def Step.wt (x:Step):Nat:=wtL (fun _=>0) x.path+wtL PathBind.wt x.binds
structure Step.Ok (x:Step):Prop where
  op:inR x.op
  path:okL inR x.path
  ctor:inR x.ctor
  n:inR x.n
  m:inR x.m
  clause:inR x.clause
  binds:okL PathBind.Ok x.binds
  to:inR x.to
theorem Ty.open :∀(d:D),Is (.named 0) d->∃x:Ty,Ty.c x=d.cells/\Ty.Ok x:=by
  intro d
  intro h
  obtain⟨ds,rfl,ha⟩:=h.named_inv
  simp only[ZAd]at ha
  obtain⟨d0,ds0,e0,h0,ha⟩:=ha.cons_inv
  obtain⟨d1,ds1,e1,h1,ha⟩:=ha.cons_inv
  have e:=ha.nil_inv
  subst e;subst e1;subst e0
  obtain⟨v0,rfl,o0⟩:=h0.int_inv
  obtain⟨v1,rfl,o1⟩:=h1.int_inv
  exact⟨⟨v0,v1⟩,by simp[],⟨o0,o1⟩⟩
theorem Ctor.open :∀(d:D),Is (.named 1) d->∃x:Ctor,Ctor.c x=d.cells/\Ctor.Ok x:=by
  intro d
  intro h
  obtain⟨ds,rfl,ha⟩:=h.named_inv
  simp only[ZAd]at ha
  obtain⟨d0,ds0,e0,h0,ha⟩:=ha.cons_inv
  obtain⟨d1,ds1,e1,h1,ha⟩:=ha.cons_inv
  obtain⟨d2,ds2,e2,h2,ha⟩:=ha.cons_inv
  have e:=ha.nil_inv
  subst e;subst e2;subst e1;subst e0
  obtain⟨v0,rfl,o0⟩:=h0.str_inv
  obtain⟨es1,rfl,l1,h1⟩:=h1.list_inv
  obtain⟨v1,c1,o1⟩:=Za (c:=Ty.c) (Q:=Ty.Ok) h1 l1 (fun k _ hi=>Ty.open k hi)
  obtain⟨v2,rfl,o2⟩:=h2.int_inv
  exact⟨⟨v0,v1,v2⟩,by simp[←c1],⟨o0,o1,o2⟩⟩
theorem Data.open :∀(d:D),Is (.named 2) d->∃x:Data,Data.c x=d.cells/\Data.Ok x:=by
  intro d
  intro h
  obtain⟨ds,rfl,ha⟩:=h.named_inv
  simp only[ZAd]at ha
  obtain⟨d0,ds0,e0,h0,ha⟩:=ha.cons_inv
  obtain⟨d1,ds1,e1,h1,ha⟩:=ha.cons_inv
  have e:=ha.nil_inv
  subst e;subst e1;subst e0
  obtain⟨v0,rfl,o0⟩:=h0.str_inv
  obtain⟨es1,rfl,l1,h1⟩:=h1.list_inv
  obtain⟨v1,c1,o1⟩:=Za (c:=Ctor.c) (Q:=Ctor.Ok) h1 l1 (fun k _ hi=>Ctor.open k hi)
  exact⟨⟨v0,v1⟩,by simp[←c1],⟨o0,o1⟩⟩
theorem Value.open :∀(d:D),Is (.named 3) d->∃x:Value,Value.c x=d.cells/\Value.Ok x:=by
  intro d
  induction hn:SizeOf.sizeOf d using zP generalizing d with
  |_ n ih=>
  subst hn
  intro h
  obtain⟨ds,rfl,ha⟩:=h.named_inv
  simp only[ZAd]at ha
  obtain⟨d0,ds0,e0,h0,ha⟩:=ha.cons_inv
  obtain⟨d1,ds1,e1,h1,ha⟩:=ha.cons_inv
  obtain⟨d2,ds2,e2,h2,ha⟩:=ha.cons_inv
  have e:=ha.nil_inv
  subst e;subst e2;subst e1;subst e0
  obtain⟨v0,rfl,o0⟩:=h0.int_inv
  obtain⟨v1,rfl,o1⟩:=h1.int_inv
  obtain⟨es2,rfl,l2,h2⟩:=h2.list_inv
  obtain⟨v2,c2,o2⟩:=Za (c:=Value.c) (Q:=Value.Ok) h2 l2 (fun k hk hi=>ih _ (by have:=zA hk;simp at this ⊢;omega) k rfl hi)
  exact⟨⟨v0,v1,v2⟩,by simp[←c2],.mk _ o0 o1 o2.1 o2.2⟩
theorem Pattern.open :∀(d:D),Is (.named 4) d->∃x:Pattern,Pattern.c x=d.cells/\Pattern.Ok x:=by
  intro d
  induction hn:SizeOf.sizeOf d using zP generalizing d with
  |_ n ih=>
  subst hn
  intro h
  obtain⟨ds,rfl,ha⟩:=h.named_inv
  simp only[ZAd]at ha
  obtain⟨d0,ds0,e0,h0,ha⟩:=ha.cons_inv
  obtain⟨d1,ds1,e1,h1,ha⟩:=ha.cons_inv
  obtain⟨d2,ds2,e2,h2,ha⟩:=ha.cons_inv
  obtain⟨d3,ds3,e3,h3,ha⟩:=ha.cons_inv
  obtain⟨d4,ds4,e4,h4,ha⟩:=ha.cons_inv
  obtain⟨d5,ds5,e5,h5,ha⟩:=ha.cons_inv
  have e:=ha.nil_inv
  subst e;subst e5;subst e4;subst e3;subst e2;subst e1;subst e0
  obtain⟨v0,rfl,o0⟩:=h0.int_inv
  obtain⟨v1,rfl,o1⟩:=h1.int_inv
  obtain⟨v2,rfl,o2⟩:=h2.int_inv
  obtain⟨v3,rfl,o3⟩:=h3.int_inv
  obtain⟨v4,rfl,o4⟩:=h4.int_inv
  obtain⟨es5,rfl,l5,h5⟩:=h5.list_inv
  obtain⟨v5,c5,o5⟩:=Za (c:=Pattern.c) (Q:=Pattern.Ok) h5 l5 (fun k hk hi=>ih _ (by have:=zA hk;simp at this ⊢;omega) k rfl hi)
  exact⟨⟨v0,v1,v2,v3,v4,v5⟩,by simp[←c5],.mk _ o0 o1 o2 o3 o4 o5.1 o5.2⟩
theorem Guard.open :∀(d:D),Is (.named 5) d->∃x:Guard,Guard.c x=d.cells/\Guard.Ok x:=by
  intro d
  intro h
  obtain⟨ds,rfl,ha⟩:=h.named_inv
  simp only[ZAd]at ha
  obtain⟨d0,ds0,e0,h0,ha⟩:=ha.cons_inv
  obtain⟨d1,ds1,e1,h1,ha⟩:=ha.cons_inv
  obtain⟨d2,ds2,e2,h2,ha⟩:=ha.cons_inv
  have e:=ha.nil_inv
  subst e;subst e2;subst e1;subst e0
  obtain⟨v0,rfl,o0⟩:=h0.int_inv
  obtain⟨v1,rfl,o1⟩:=h1.int_inv
  obtain⟨v2,rfl,o2⟩:=h2.int_inv
  exact⟨⟨v0,v1,v2⟩,by simp[],⟨o0,o1,o2⟩⟩
theorem Clause.open :∀(d:D),Is (.named 6) d->∃x:Clause,Clause.c x=d.cells/\Clause.Ok x:=by
  intro d
  intro h
  obtain⟨ds,rfl,ha⟩:=h.named_inv
  simp only[ZAd]at ha
  obtain⟨d0,ds0,e0,h0,ha⟩:=ha.cons_inv
  obtain⟨d1,ds1,e1,h1,ha⟩:=ha.cons_inv
  have e:=ha.nil_inv
  subst e;subst e1;subst e0
  obtain⟨v0,c0,o0⟩:=Pattern.open d0 h0
  obtain⟨v1,c1,o1⟩:=Guard.open d1 h1
  exact⟨⟨v0,v1⟩,by simp[←c0,←c1],⟨o0,o1⟩⟩
theorem FunType.open :∀(d:D),Is (.named 7) d->∃x:FunType,FunType.c x=d.cells/\FunType.Ok x:=by
  intro d
  intro h
  obtain⟨ds,rfl,ha⟩:=h.named_inv
  simp only[ZAd]at ha
  obtain⟨d0,ds0,e0,h0,ha⟩:=ha.cons_inv
  obtain⟨d1,ds1,e1,h1,ha⟩:=ha.cons_inv
  have e:=ha.nil_inv
  subst e;subst e1;subst e0
  obtain⟨v0,c0,o0⟩:=Ty.open d0 h0
  obtain⟨v1,c1,o1⟩:=Ty.open d1 h1
  exact⟨⟨v0,v1⟩,by simp[←c0,←c1],⟨o0,o1⟩⟩
theorem VarType.open :∀(d:D),Is (.named 8) d->∃x:VarType,VarType.c x=d.cells/\VarType.Ok x:=by
  intro d
  intro h
  obtain⟨ds,rfl,ha⟩:=h.named_inv
  simp only[ZAd]at ha
  obtain⟨d0,ds0,e0,h0,ha⟩:=ha.cons_inv
  obtain⟨d1,ds1,e1,h1,ha⟩:=ha.cons_inv
  have e:=ha.nil_inv
  subst e;subst e1;subst e0
  obtain⟨v0,rfl,o0⟩:=h0.int_inv
  obtain⟨v1,c1,o1⟩:=Ty.open d1 h1
  exact⟨⟨v0,v1⟩,by simp[←c1],⟨o0,o1⟩⟩
theorem Expr.open :∀(d:D),Is (.named 9) d->∃x:Expr,Expr.c x=d.cells/\Expr.Ok x:=by
  intro d
  induction hn:SizeOf.sizeOf d using zP generalizing d with
  |_ n ih=>
  subst hn
  intro h
  obtain⟨ds,rfl,ha⟩:=h.named_inv
  simp only[ZAd]at ha
  obtain⟨d0,ds0,e0,h0,ha⟩:=ha.cons_inv
  obtain⟨d1,ds1,e1,h1,ha⟩:=ha.cons_inv
  obtain⟨d2,ds2,e2,h2,ha⟩:=ha.cons_inv
  obtain⟨d3,ds3,e3,h3,ha⟩:=ha.cons_inv
  have e:=ha.nil_inv
  subst e;subst e3;subst e2;subst e1;subst e0
  obtain⟨v0,rfl,o0⟩:=h0.int_inv
  obtain⟨v1,rfl,o1⟩:=h1.int_inv
  obtain⟨v2,rfl,o2⟩:=h2.int_inv
  obtain⟨es3,rfl,l3,h3⟩:=h3.list_inv
  obtain⟨v3,c3,o3⟩:=Za (c:=Expr.c) (Q:=Expr.Ok) h3 l3 (fun k hk hi=>ih _ (by have:=zA hk;simp at this ⊢;omega) k rfl hi)
  exact⟨⟨v0,v1,v2,v3⟩,by simp[←c3],.mk _ o0 o1 o2 o3.1 o3.2⟩
theorem Fun.open :∀(d:D),Is (.named 10) d->∃x:Fun,Fun.c x=d.cells/\Fun.Ok x:=by
  intro d
  intro h
  obtain⟨ds,rfl,ha⟩:=h.named_inv
  simp only[ZAd]at ha
  obtain⟨d0,ds0,e0,h0,ha⟩:=ha.cons_inv
  obtain⟨d1,ds1,e1,h1,ha⟩:=ha.cons_inv
  obtain⟨d2,ds2,e2,h2,ha⟩:=ha.cons_inv
  have e:=ha.nil_inv
  subst e;subst e2;subst e1;subst e0
  obtain⟨v0,c0,o0⟩:=FunType.open d0 h0
  obtain⟨es1,rfl,l1,h1⟩:=h1.list_inv
  obtain⟨v1,c1,o1⟩:=Za (c:=Clause.c) (Q:=Clause.Ok) h1 l1 (fun k _ hi=>Clause.open k hi)
  obtain⟨es2,rfl,l2,h2⟩:=h2.list_inv
  obtain⟨v2,c2,o2⟩:=Za (c:=Expr.c) (Q:=Expr.Ok) h2 l2 (fun k _ hi=>Expr.open k hi)
  exact⟨⟨v0,v1,v2⟩,by simp[←c0,←c1,←c2],⟨o0,o1,o2⟩⟩
theorem Bind.open :∀(d:D),Is (.named 11) d->∃x:Bind,Bind.c x=d.cells/\Bind.Ok x:=by
  intro d
  intro h
  obtain⟨ds,rfl,ha⟩:=h.named_inv
  simp only[ZAd]at ha
  obtain⟨d0,ds0,e0,h0,ha⟩:=ha.cons_inv
  obtain⟨d1,ds1,e1,h1,ha⟩:=ha.cons_inv
  have e:=ha.nil_inv
  subst e;subst e1;subst e0
  obtain⟨v0,rfl,o0⟩:=h0.int_inv
  obtain⟨v1,c1,o1⟩:=Value.open d1 h1
  exact⟨⟨v0,v1⟩,by simp[←c1],⟨o0,o1⟩⟩
theorem PathBind.open :∀(d:D),Is (.named 12) d->∃x:PathBind,zS x=d.cells/\PathBind.Ok x:=by
  intro d
  intro h
  obtain⟨ds,rfl,ha⟩:=h.named_inv
  simp only[ZAd]at ha
  obtain⟨d0,ds0,e0,h0,ha⟩:=ha.cons_inv
  obtain⟨d1,ds1,e1,h1,ha⟩:=ha.cons_inv
  have e:=ha.nil_inv
  subst e;subst e1;subst e0
  obtain⟨v0,rfl,o0⟩:=h0.int_inv
  obtain⟨es1,rfl,l1,h1⟩:=h1.list_inv
  obtain⟨v1,c1,o1⟩:=ZCO h1 l1
  exact⟨⟨v0,v1⟩,by simp[←c1],⟨o0,o1⟩⟩
theorem Tree.open :∀(d:D),Is (.named 14) d->∃x:Tree,Tree.c x=d.cells/\Tree.Ok x:=by
  intro d
  induction hn:SizeOf.sizeOf d using zP generalizing d with
  |_ n ih=>
  subst hn
  intro h
  obtain⟨ds,rfl,ha⟩:=h.named_inv
  simp only[ZAd]at ha
  obtain⟨d0,ds0,e0,h0,ha⟩:=ha.cons_inv
  obtain⟨d1,ds1,e1,h1,ha⟩:=ha.cons_inv
  obtain⟨d2,ds2,e2,h2,ha⟩:=ha.cons_inv
  obtain⟨d3,ds3,e3,h3,ha⟩:=ha.cons_inv
  obtain⟨d4,ds4,e4,h4,ha⟩:=ha.cons_inv
  obtain⟨d5,ds5,e5,h5,ha⟩:=ha.cons_inv
  have e:=ha.nil_inv
  subst e;subst e5;subst e4;subst e3;subst e2;subst e1;subst e0
  obtain⟨v0,rfl,o0⟩:=h0.int_inv
  obtain⟨v1,rfl,o1⟩:=h1.int_inv
  obtain⟨es2,rfl,l2,h2⟩:=h2.list_inv
  obtain⟨v2,c2,o2⟩:=Za (c:=zS) (Q:=PathBind.Ok) h2 l2 (fun k _ hi=>PathBind.open k hi)
  obtain⟨es3,rfl,l3,h3⟩:=h3.list_inv
  obtain⟨v3,c3,o3⟩:=ZCO h3 l3
  obtain⟨es4,rfl,l4,h4⟩:=h4.list_inv
  obtain⟨v4,c4,o4⟩:=Za (c:=Branch.c) (Q:=Branch.Ok) h4 l4 (fun b hb hi=>by
    obtain⟨bs,rfl,hb'⟩:=hi.named_inv
    simp only[ZAd]at hb'
    obtain⟨q0,r0,e0,i0,hb'⟩:=hb'.cons_inv
    obtain⟨q1,r1,e1,i1,hb'⟩:=hb'.cons_inv
    obtain⟨q2,r2,e2,i2,hb'⟩:=hb'.cons_inv
    obtain⟨q3,r3,e3,i3,hb'⟩:=hb'.cons_inv
    have e:=hb'.nil_inv
    subst e;subst e3;subst e2;subst e1;subst e0
    obtain⟨w0,rfl,p0⟩:=i0.int_inv
    obtain⟨w1,rfl,p1⟩:=i1.int_inv
    obtain⟨w2,rfl,p2⟩:=i2.int_inv
    obtain⟨t,ct,ot⟩:=ih _ (by have:=zA hb;simp at this ⊢;omega) q3 rfl i3
    exact⟨⟨w0,w1,w2,t⟩,by rw[Branch.c,ct];simp,⟨p0,p1,p2,ot⟩⟩)
  obtain⟨es5,rfl,l5,h5⟩:=h5.list_inv
  obtain⟨v5,c5,o5⟩:=Za (c:=Tree.c) (Q:=Tree.Ok) h5 l5 (fun k hk hi=>ih _ (by have:=zA hk;simp at this ⊢;omega) k rfl hi)
  exact⟨⟨v0,v1,v2,v3,v4,v5⟩,by simp[←c2,←c3,←c4,←c5],.mk _ o0 o1 o2 o3 o4.1 o5.1 (fun b hb=>⟨(o4.2 b hb).ctor,(o4.2 b hb).n,(o4.2 b hb).m⟩) (fun b hb=>(o4.2 b hb).tree) o5.2⟩
theorem Edge.open :∀(d:D),Is (.named 15) d->∃x:Edge,Edge.c x=d.cells/\Edge.Ok x:=by
  intro d
  intro h
  obtain⟨ds,rfl,ha⟩:=h.named_inv
  simp only[ZAd]at ha
  obtain⟨d0,ds0,e0,h0,ha⟩:=ha.cons_inv
  obtain⟨d1,ds1,e1,h1,ha⟩:=ha.cons_inv
  obtain⟨d2,ds2,e2,h2,ha⟩:=ha.cons_inv
  obtain⟨d3,ds3,e3,h3,ha⟩:=ha.cons_inv
  have e:=ha.nil_inv
  subst e;subst e3;subst e2;subst e1;subst e0
  obtain⟨v0,rfl,o0⟩:=h0.int_inv
  obtain⟨v1,rfl,o1⟩:=h1.int_inv
  obtain⟨v2,rfl,o2⟩:=h2.int_inv
  obtain⟨v3,rfl,o3⟩:=h3.int_inv
  exact⟨⟨v0,v1,v2,v3⟩,by simp[],⟨o0,o1,o2,o3⟩⟩
theorem Node.open :∀(d:D),Is (.named 16) d->∃x:Node,Node.c x=d.cells/\Node.Ok x:=by
  intro d
  intro h
  obtain⟨ds,rfl,ha⟩:=h.named_inv
  simp only[ZAd]at ha
  obtain⟨d0,ds0,e0,h0,ha⟩:=ha.cons_inv
  obtain⟨d1,ds1,e1,h1,ha⟩:=ha.cons_inv
  obtain⟨d2,ds2,e2,h2,ha⟩:=ha.cons_inv
  obtain⟨d3,ds3,e3,h3,ha⟩:=ha.cons_inv
  obtain⟨d4,ds4,e4,h4,ha⟩:=ha.cons_inv
  obtain⟨d5,ds5,e5,h5,ha⟩:=ha.cons_inv
  have e:=ha.nil_inv
  subst e;subst e5;subst e4;subst e3;subst e2;subst e1;subst e0
  obtain⟨v0,rfl,o0⟩:=h0.int_inv
  obtain⟨v1,rfl,o1⟩:=h1.int_inv
  obtain⟨es2,rfl,l2,h2⟩:=h2.list_inv
  obtain⟨v2,c2,o2⟩:=Za (c:=zS) (Q:=PathBind.Ok) h2 l2 (fun k _ hi=>PathBind.open k hi)
  obtain⟨es3,rfl,l3,h3⟩:=h3.list_inv
  obtain⟨v3,c3,o3⟩:=ZCO h3 l3
  obtain⟨es4,rfl,l4,h4⟩:=h4.list_inv
  obtain⟨v4,c4,o4⟩:=Za (c:=Edge.c) (Q:=Edge.Ok) h4 l4 (fun k _ hi=>Edge.open k hi)
  obtain⟨v5,rfl,o5⟩:=h5.int_inv
  exact⟨⟨v0,v1,v2,v3,v4,v5⟩,by simp[←c2,←c3,←c4],⟨o0,o1,o2,o3,o4,o5⟩⟩
theorem Step.open :∀(d:D),Is (.named 17) d->∃x:Step,Step.c x=d.cells/\Step.Ok x:=by
  intro d
  intro h
  obtain⟨ds,rfl,ha⟩:=h.named_inv
  simp only[ZAd]at ha
  obtain⟨d0,ds0,e0,h0,ha⟩:=ha.cons_inv
  obtain⟨d1,ds1,e1,h1,ha⟩:=ha.cons_inv
  obtain⟨d2,ds2,e2,h2,ha⟩:=ha.cons_inv
  obtain⟨d3,ds3,e3,h3,ha⟩:=ha.cons_inv
  obtain⟨d4,ds4,e4,h4,ha⟩:=ha.cons_inv
  obtain⟨d5,ds5,e5,h5,ha⟩:=ha.cons_inv
  obtain⟨d6,ds6,e6,h6,ha⟩:=ha.cons_inv
  obtain⟨d7,ds7,e7,h7,ha⟩:=ha.cons_inv
  have e:=ha.nil_inv
  subst e;subst e7;subst e6;subst e5;subst e4;subst e3;subst e2;subst e1;subst e0
  obtain⟨v0,rfl,o0⟩:=h0.int_inv
  obtain⟨es1,rfl,l1,h1⟩:=h1.list_inv
  obtain⟨v1,c1,o1⟩:=ZCO h1 l1
  obtain⟨v2,rfl,o2⟩:=h2.int_inv
  obtain⟨v3,rfl,o3⟩:=h3.int_inv
  obtain⟨v4,rfl,o4⟩:=h4.int_inv
  obtain⟨v5,rfl,o5⟩:=h5.int_inv
  obtain⟨es6,rfl,l6,h6⟩:=h6.list_inv
  obtain⟨v6,c6,o6⟩:=Za (c:=zS) (Q:=PathBind.Ok) h6 l6 (fun k _ hi=>PathBind.open k hi)
  obtain⟨v7,rfl,o7⟩:=h7.int_inv
  exact⟨⟨v0,v1,v2,v3,v4,v5,v6,v7⟩,by simp[←c1,←c6],⟨o0,o1,o2,o3,o4,o5,o6,o7⟩⟩
end Go.Vl
namespace Go.Vl
open Go Go.RowKit
variable {α β:Type}
theorem ZGz {a:List α}{g:α->β}{f:α->Option β}{L:List β->Nat->Option (List β)}(hL:∀out i,L out i=if i<a.length then a[i]? >>=fun x=>f x>>=fun v=>if out.length+1<=67108864 then L (out++[v]) (i+1)else none else some out)(hf:∀x,x∈a->f x=some (g x)):∀(m i:Nat) (out:List β),a.length-i=m->out.length+m<=67108864->L out i=some (out++(a.drop i).map g):=by
 intro m
 induction m with
 |zero=>
  intro i out hm h0
  rw[hL,iN (by omega),zC (by omega)];simp
 |succ m ih=>
  intro i out hm h0
  have hi:i<a.length:=by omega
  rw[hL,iP hi,zB hi,zD hi]
  simp only[zI,zO,zN]
  rw[hf _ (zF hi)]
  simp only[zN]
  rw[iP (by omega),ih (i+1) _ (by omega) (by simp;omega)]
  simp
variable {Q:Nat->Prop}
theorem ZPr {R S:Type}{n:Nat}{r:R}{p:S}{L:Nat->Option (Lo R S)}(h0:∀k,n<=k->L k=some (.go p))(h1:∀k,k<n->Q k->L k=L (k+1))(h2:∀k,k<n->¬Q k->L k=some (.ret r)):∀(m k:Nat),n-k=m->L k=some (if dec (∀j,k<=j->j<n->Q j)=true then .go p else .ret r):=by
 intro m
 induction m with
 |zero=>
  intro k hm
  rw[h0 k (by omega),iP (dec_of fun j hj h=>by omega)]
 |succ m ih=>
  intro k hm
  have hk:k<n:=by omega
  by_cases hq:Q k
  ·rw[h1 k hk hq,ih (k+1) (by omega)]
   by_cases hall:∀j,k+1<=j->j<n->Q j
   ·rw[iP (dec_of hall),iP (dec_of fun j hj h=> ?_)]
    by_cases e:k=j
    ·subst e;exact hq
    ·exact hall j (by omega) h
   ·rw[iN (by rw[ZD hall];simp),iN (by rw[ZD fun hh=>hall fun j hj h=>hh j (by omega) h];simp)]
  ·rw[h2 k hk hq,iN (by rw[ZD fun hh=>hq (hh k (Nat.le_refl _) hk)];simp)]
theorem ZIT {R:Type}{n:Nat}{r:R}{L:Nat->Option (Lo R Unit)}(h0:∀k,n<=k->L k=some (.go ()))(h1:∀k,k<n->Q k->L k=L (k+1))(h2:∀k,k<n->¬Q k->L k=some (.ret r)):∀(m k:Nat),n-k=m->L k=some (if dec (∀j,k<=j->j<n->Q j)=true then .go ()else .ret r):=ZPr h0 h1 h2
theorem ZCD {l:List α}{f:α->β}{k:Nat}(h:k<l.length):(l.take (k+1)).map f=(l.take k).map f++[f l[k]]:=by
 rw[zG h,List.map_append,zI,List.map_nil]
theorem ZCa {l:List α}{f:α->List β}{k:Nat}(h:k<l.length):(l.take (k+1)).flatMap f=(l.take k).flatMap f++f l[k]:=by
 rw[zG h,List.flatMap_append,List.flatMap_cons,List.flatMap_nil,zL]
theorem ZFC {l:Int}{n:Nat}(h:¬rem l n<0):(n:Int)<=l:=by simp only[rem]at h;split at h<;>omega
theorem ZD3 {a:List α}{k:Nat}(h:k<a.length):at? a (k:Int)=some a[k]:=by rw[ZJz,zB h]
theorem ZAu {p:Prop}[Decidable p]:dec p=decide p:=by by_cases h:p<;>simp[h]
theorem ZM {p q:Prop}(h:p↔q):dec p=dec q:=by by_cases hp:p<;>simp[dec_of,ZD,hp,h.1,mt h.2]
end Go.Vl
