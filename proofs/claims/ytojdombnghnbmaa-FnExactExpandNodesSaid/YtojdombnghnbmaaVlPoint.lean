/- The value-level layer, part 16b: an operation has one outcome. -/
import Derived.Test.YtojdombnghnbmaaVlDraw
set_option linter.unusedSimpArgs false
set_option linter.unusedVariables false
namespace Go.Vl
open Go Go.RowKit
attribute [local simp] lk putK ev frOf AV.adv Sh.isAgg
def Pt {α:Type}(F:(α→Prop)→Prop):Prop:=∀K,F K→∃r,K r∧∀K':α→Prop,K' r→F K'
theorem Pt.no {α:Type}:Pt (fun _:α→Prop=>False):=fun _ h=>h.elim
theorem Pt.one {α:Type}(r:α):Pt (fun K:α→Prop=>K r):=fun _ h=>⟨r,h,fun _ h'=>h'⟩
theorem Pt.and {α:Type}{c:Prop}{F:(α→Prop)→Prop}(h:c→Pt F):Pt (fun K=>c∧F K):=fun K hk=>
  let⟨r,h1,h2⟩:=h hk.1 K hk.2
  ⟨r,h1,fun K' hk'=>⟨hk.1,h2 K' hk'⟩⟩
theorem Pt.ite {α:Type}{c:Prop}[Decidable c]{F G:(α→Prop)→Prop}(h:c→Pt F)(h':¬c→Pt G):Pt (fun K=>if c then F K else G K):=by
  by_cases hc:c
  · simp only[hc,if_true];exact h hc
  · simp only[hc,if_false];exact h' hc
theorem Pt.comp {α β:Type}{F:(α→Prop)→Prop}(h:Pt F){G:α→(β→Prop)→Prop}(hG:∀a,Pt (G a)):Pt (fun K=>F (fun a=>G a K)):=fun K hk=>
  let⟨a,h1,h2⟩:=h _ hk
  let⟨r,h3,h4⟩:=hG a K h1
  ⟨r,h3,fun K' hk'=>h2 _ (h4 K' hk')⟩
theorem pt_cellsK (σ:Store)(x:AV):Pt (x.cellsK σ):=by
  cases x<;>first|exact Pt.one _|exact Pt.and fun _=>Pt.one _
theorem pt_rdE (e:List AV)(off n:Nat):Pt (rdE e off n):=Pt.ite (fun _=>Pt.one _) fun _=>Pt.and fun _=>Pt.one _
theorem pt_rdN (σ:Store)(p:AV)(n:Nat):Pt (rdN σ p n):=by
  cases p with
  |rptr e off=>exact pt_rdE e off n
  |ptr l off=>unfold rdN;(try dsimp only);generalize σ[l]? =ob;rcases ob with _|(_|⟨(_|_),cs⟩|⟨(_|_),sz,es⟩)<;>(try dsimp only)<;>first|exact Pt.no|exact pt_rdE _ _ _
  |eptr l k i off=>unfold rdN;(try dsimp only);generalize σ[l]? =ob;rcases ob with _|(_|⟨(_|_),cs⟩|⟨(_|_),sz,es⟩)<;>(try dsimp only)<;>first|exact Pt.no|exact Pt.and fun _=>Pt.and fun _=>pt_rdE _ _ _
  |_=>exact Pt.no
theorem pt_rd1 (σ:Store)(p:AV):Pt (rd1 σ p):=by
  cases p with
  |rptr e off=>exact Pt.and fun _=>Pt.one _
  |ptr l off=>unfold rd1;(try dsimp only);generalize σ[l]? =ob;rcases ob with _|(_|⟨(_|_),cs⟩|⟨(_|_),sz,es⟩)<;>(try dsimp only)<;>first|exact Pt.no|exact Pt.and fun _=>Pt.one _
  |eptr l k i off=>unfold rd1;(try dsimp only);generalize σ[l]? =ob;rcases ob with _|(_|⟨(_|_),cs⟩|⟨(_|_),sz,es⟩)<;>(try dsimp only)<;>first|exact Pt.no|exact Pt.and fun _=>Pt.and fun _=>Pt.and fun _=>Pt.one _
  |_=>exact Pt.no
theorem pt_aLoad (P:Program)(t:TypeId)(σ:Store)(p:AV):Pt (aLoad P t σ p):=by
  unfold aLoad
  generalize tiOf P t=ob
  cases ob with
  |none=>exact Pt.no
  |some i=>exact Pt.ite (fun _=>(pt_rdN σ p i.size).comp fun cs=>Pt.one _) fun _=>pt_rd1 σ p
theorem pt_wrE (e:List AV)(off:Nat)(cs:List AV):Pt (wrE e off cs):=Pt.ite (fun _=>Pt.one _) fun _=>Pt.and fun _=>Pt.one _
theorem pt_wrN (σ:Store)(p:AV)(cs:List AV):Pt (wrN σ p cs):=by
  cases p with
  |ptr l off=>unfold wrN;(try dsimp only);generalize σ[l]? =ob;rcases ob with _|(_|⟨(_|_),cs⟩|⟨(_|_),sz,es⟩)<;>(try dsimp only)<;>first|exact Pt.no|exact(pt_wrE _ _ _).comp fun _=>Pt.one _
  |eptr l k i off=>unfold wrN;(try dsimp only);generalize σ[l]? =ob;rcases ob with _|(_|⟨(_|_),cs⟩|⟨(_|_),sz,es⟩)<;>(try dsimp only)<;>first|exact Pt.no|exact Pt.and fun _=>Pt.and fun _=>(pt_wrE _ _ _).comp fun _=>Pt.one _
  |_=>exact Pt.no
theorem pt_aStore (P:Program)(t:TypeId)(σ:Store)(p v:AV):Pt (aStore P t σ p v):=by
  unfold aStore
  generalize tiOf P t=ob
  cases ob with
  |none=>exact Pt.no
  |some i=>exact(pt_cellsK σ v).comp fun cs=>Pt.and fun _=>Pt.and fun _=>pt_wrN σ p cs
theorem pt_aFieldAddr (P:Program)(t:TypeId)(σ:Store)(p:AV)(f:Nat):Pt (aFieldAddr P t σ p f):=by
  unfold aFieldAddr
  generalize tiOf P t=ob;rcases ob with _|⟨sh,sz,z⟩<;>(try dsimp only)
  · exact Pt.no
  · cases sh<;>(try dsimp only)<;>first|exact Pt.no|skip
    next offs=>
      generalize offs[f]? =ob;rcases ob with _|⟨o,_|s⟩<;>(try dsimp only)<;>first|exact Pt.no|exact Pt.and fun _=>Pt.one _
theorem pt_aIndexAddr (P:Program)(t:TypeId)(σ:Store)(x i:AV):Pt (aIndexAddr P t σ x i):=by
  unfold aIndexAddr
  cases i<;>(try dsimp only)<;>first|exact Pt.no|skip
  next v=>
    cases v<;>(try dsimp only)<;>first|exact Pt.no|skip
    next k n=>
      generalize tiOf P t=ob;rcases ob with _|⟨sh,sz,z⟩<;>(try dsimp only)
      · exact Pt.no
      · cases sh<;>(try dsimp only)<;>first|exact Pt.no|skip
        · cases x<;>(try dsimp only)<;>first|exact Pt.no|skip
          · exact Pt.and fun _=>Pt.and fun _=>Pt.and fun _=>Pt.one _
          · next l _=>generalize σ[l]? =ob;rcases ob with _|(_|⟨(_|_),cs⟩|⟨(_|_),sz,es⟩)<;>(try dsimp only)<;>first|exact Pt.no|exact Pt.and fun _=>Pt.and fun _=>Pt.and fun _=>Pt.and fun _=>Pt.one _
        · next len s=>cases s<;>(try dsimp only)<;>first|exact Pt.no|exact Pt.and fun _=>Pt.and fun _=>Pt.and fun _=>Pt.one _
theorem pt_aIndex (P:Program)(t:TypeId)(x i:AV):Pt (aIndex P t x i):=by
  unfold aIndex
  cases x<;>(try dsimp only)<;>first|exact Pt.no|skip
  · next v=>
    cases v<;>(try dsimp only)<;>first|exact Pt.no|skip
    next s=>
      cases i<;>(try dsimp only)<;>first|exact Pt.no|skip
      next v=>cases v<;>(try dsimp only)<;>first|exact Pt.no|exact Pt.and fun _=>Pt.and fun _=>Pt.and fun _=>Pt.one _
  · next cs=>
    cases i<;>(try dsimp only)<;>first|exact Pt.no|skip
    next v=>
      cases v<;>(try dsimp only)<;>first|exact Pt.no|skip
      generalize P.underlying t=ob
      rcases ob with _|d<;>(try dsimp only)
      · exact Pt.no
      · cases d<;>(try dsimp only)<;>first|exact Pt.no|skip
        next len e=>
          generalize tiOf P e=ob2
          rcases ob2 with _|j<;>(try dsimp only)
          · exact Pt.no
          · exact Pt.and fun _=>Pt.and fun _=>Pt.and fun _=>Pt.and fun _=>Pt.and fun _=>Pt.one _
theorem pt_aLen (P:Program)(t:TypeId)(σ:Store)(x:AV):Pt (aLen P t σ x):=by
  unfold aLen
  generalize P.underlying t=ob
  cases ob with
  |none=>exact Pt.no
  |some d=>
    (try dsimp only)
    cases d<;>(try dsimp only)<;>first|exact Pt.no|exact Pt.one _|skip
    · cases x<;>(try dsimp only)<;>first|exact Pt.no|skip
      next v=>
        cases v<;>(try dsimp only)<;>first|exact Pt.no|exact Pt.one _
    · cases x<;>(try dsimp only)<;>first|exact Pt.no|exact Pt.one _|skip
      · next v=>
          cases v<;>(try dsimp only)<;>first|exact Pt.no|skip
          next a n c=>
            cases a<;>cases n<;>cases c<;>(try dsimp only)<;>first|exact Pt.no|exact Pt.one _
theorem pt_elemsK (σ:Store)(x:AV):Pt (elemsK σ x):=by
  unfold elemsK
  cases x<;>(try dsimp only)<;>first|exact Pt.no|exact Pt.one _|skip
  · next v=>
      cases v<;>(try dsimp only)<;>first|exact Pt.no|skip
      next a n c=>
        cases a<;>cases n<;>cases c<;>(try dsimp only)<;>first|exact Pt.no|exact Pt.one _
  · next l _=>generalize σ[l]? =ob;rcases ob with _|(_|⟨(_|_),cs⟩|⟨(_|_),sz,es⟩)<;>(try dsimp only)<;>first|exact Pt.no|exact Pt.and fun _=>Pt.one _
def Pt2 {α β:Type}(F:(α→β→Prop)→Prop):Prop:=∀K,F K→∃r s,K r s∧∀K':α→β→Prop,K' r s→F K'
theorem Pt2.no {α β:Type}:Pt2 (fun _:α→β→Prop=>False):=fun _ h=>h.elim
theorem Pt2.one {α β:Type}(r:α)(s:β):Pt2 (fun K:α→β→Prop=>K r s):=fun _ h=>⟨r,s,h,fun _ h'=>h'⟩
theorem Pt2.and {α β:Type}{c:Prop}{F:(α→β→Prop)→Prop}(h:c→Pt2 F):Pt2 (fun K=>c∧F K):=fun K hk=>
  let⟨r,s,h1,h2⟩:=h hk.1 K hk.2
  ⟨r,s,h1,fun K' hk'=>⟨hk.1,h2 K' hk'⟩⟩
theorem Pt.comp2 {α β γ:Type}{F:(α→Prop)→Prop}(h:Pt F){G:α→(β→γ→Prop)→Prop}(hG:∀a,Pt2 (G a)):Pt2 (fun K=>F (fun a=>G a K)):=fun K hk=>
  let⟨a,h1,h2⟩:=h _ hk
  let⟨r,s,h3,h4⟩:=hG a K h1
  ⟨r,s,h3,fun K' hk'=>h2 _ (h4 K' hk')⟩
theorem Pt2.comp2 {α β γ δ:Type}{F:(α→δ→Prop)→Prop}(h:Pt2 F){G:α→δ→(β→γ→Prop)→Prop}(hG:∀a d,Pt2 (G a d)):Pt2 (fun K=>F (fun a d=>G a d K)):=fun K hk=>
  let⟨a,d,h1,h2⟩:=h _ hk
  let⟨r,s,h3,h4⟩:=hG a d K h1
  ⟨r,s,h3,fun K' hk'=>h2 _ (h4 K' hk')⟩
theorem Pt.toPt2 {α β:Type}{F:(α→Prop)→Prop}(h:Pt F)(s:β):Pt2 (fun K:α→β→Prop=>F (fun a=>K a s)):=h.comp2 fun a=>Pt2.one a s
theorem pt_frz :∀(cs:List AV) (σ:Store),Pt2 (frz σ cs)
  | [],σ=>Pt2.one _ _
  |c::r,σ=>by
    have gen:Pt2 (fun K=>frz σ r (fun r' σ'=>K (c::r') σ')):=(pt_frz r σ).comp2 fun a d=>Pt2.one _ _
    cases c with
    |own l n=>show Pt2 (fun K=>frz σ (.own l n::r) K);simp only[frz];generalize σ[l]? =ob;rcases ob with _|(_|⟨(_|_),cs⟩|⟨(_|_),sz,es⟩)<;>(try dsimp only)<;>first|exact Pt2.no|exact Pt2.and fun _=>Pt2.and fun _=>(pt_frz r _).comp2 fun a d=>Pt2.one _ _
    |lit v=>exact gen
    |junk=>exact gen
    |arr es=>exact gen
    |rptr e o=>exact gen
    |ptr l o=>exact gen
    |eptr l n i o=>exact gen
    |pre l n k=>exact gen
    |agg cs=>exact gen
    |tup cs=>exact gen
    |fn f xs ys=>exact gen
theorem pt_frzs :∀(es:List (List AV)) (σ:Store),Pt2 (frzs σ es)
  | [],σ=>Pt2.one _ _
  |e::r,σ=>(pt_frz e σ).comp2 fun e' σ'=>(pt_frzs r σ').comp2 fun a d=>Pt2.one _ _
theorem pt_aFill (place:Nat→Option (Nat×Nat))(σ:Store):∀(parts:List (Nat×AV)) (cs:List AV),Pt (aFill place σ cs parts)
  | [],cs=>Pt.one _
  |(i,x)::rest,cs=>by
    show Pt (fun K=>aFill place σ cs ((i,x)::rest) K)
    simp only[aFill]
    generalize place i=ob;rcases ob with _|⟨off,size⟩
    · exact Pt.no
    · exact(pt_cellsK σ x).comp fun new=>Pt.and fun _=>(pt_wrE _ _ _).comp fun cs'=>pt_aFill place σ rest cs'
theorem pt_aElems (σ:Store)(sz:Nat):∀(parts:List (Nat×AV)) (j:Nat),Pt (aElems σ sz j parts)
  | [],j=>Pt.one _
  |(i,x)::rest,j=>by
    show Pt (fun K=>aElems σ sz j ((i,x)::rest) K)
    simp only[aElems]
    exact Pt.and fun _=>(pt_cellsK σ x).comp fun e=>Pt.and fun _=>(pt_aElems σ sz rest (j+1)).comp fun es=>Pt.one _
theorem pt_bfrzs (es:List (List AV))(σ:Store):Pt2 (bfrzs σ es):=by
  by_cases h:σ.any isK=true∧σ.any isP=true
  · have:bfrzs σ es=fun K=>K es σ:=by funext K;unfold bfrzs;rw[if_pos h]
    rw[this];exact Pt2.one _ _
  · have:bfrzs σ es=frzs σ es:=by funext K;unfold bfrzs;rw[if_neg h]
    rw[this];exact pt_frzs es σ
theorem pt_bfrz (cs:List AV)(σ:Store):Pt2 (bfrz σ cs):=by
  by_cases h:σ.any isM=true
  · have:bfrz σ cs=fun K=>K cs σ:=by funext K;unfold bfrz;rw[if_pos h]
    rw[this];exact Pt2.one _ _
  · have:bfrz σ cs=frz σ cs:=by funext K;unfold bfrz;rw[if_neg h]
    rw[this];exact pt_frz cs σ
theorem pt_aBuild (P:Program)(t:TypeId)(σ:Store)(parts:List (Nat×AV)):Pt2 (aBuild P t σ parts):=by
  unfold aBuild
  generalize tiOf P t=ob;rcases ob with _|⟨sh,sz,z⟩<;>(try dsimp only)
  · exact Pt2.no
  · cases sh<;>(try dsimp only)<;>first|exact Pt2.no|exact Pt2.and fun _=>Pt2.and fun _=>(pt_aFill _ σ parts _).comp2 fun cs=>(pt_bfrz cs σ).comp2 fun a d=>Pt2.one _ _
theorem pt_aBuildSlice (P:Program)(B:Nat)(t:TypeId)(σ:Store)(len:Nat)(parts:List (Nat×AV)):Pt2 (aBuildSlice P B t σ len parts):=by
  unfold aBuildSlice
  generalize tiOf P t=ob;rcases ob with _|⟨sh,sz,z⟩<;>(try dsimp only)
  · exact Pt2.no
  · cases sh<;>(try dsimp only)<;>first|exact Pt2.no|exact Pt2.and fun _=>Pt2.and fun _=>Pt2.and fun _=>Pt2.and fun _=>Pt2.and fun _=>(pt_aElems σ _ parts 0).comp2 fun es=>(pt_bfrzs es σ).comp2 fun a d=>Pt2.one _ _
theorem pt_aMakeSlice (P:Program)(B:Nat)(t:TypeId)(σ:Store)(l c:AV):Pt2 (aMakeSlice P B t σ l c):=by
  unfold aMakeSlice
  generalize tiOf P t=ob;rcases ob with _|⟨sh,sz,z⟩<;>(try dsimp only)
  · exact Pt2.no
  · cases sh<;>(try dsimp only)<;>first|exact Pt2.no|skip
    cases l<;>(try dsimp only)<;>first|exact Pt2.no|skip
    next v=>
      cases v<;>(try dsimp only)<;>first|exact Pt2.no|skip
      cases c<;>(try dsimp only)<;>first|exact Pt2.no|skip
      next v=>
        cases v<;>(try dsimp only)<;>first|exact Pt2.no|exact Pt2.and fun _=>Pt2.and fun _=>Pt2.and fun _=>Pt2.and fun _=>Pt2.and fun _=>Pt2.and fun _=>Pt2.and fun _=>Pt2.one _ _
theorem pt_optInt (x:Option AV)(d:Nat):Pt (optInt x d):=by
  unfold optInt
  cases x with
  |none=>exact Pt.one _
  |some v=>
    cases v<;>(try dsimp only)<;>first|exact Pt.no|skip
    next v=>cases v<;>(try dsimp only)<;>first|exact Pt.no|exact Pt.and fun _=>Pt.one _
theorem pt_aSlice (P:Program)(t:TypeId)(σ:Store)(x:AV)(lo hi mx:Option AV):Pt2 (aSlice P t σ x lo hi mx):=by
  unfold aSlice
  cases x<;>(try dsimp only)<;>first|exact Pt2.no|skip
  · next v=>
      cases v<;>(try dsimp only)<;>first|exact Pt2.no|skip
      cases mx<;>(try dsimp only)<;>first|exact Pt2.no|exact Pt2.and fun _=>(pt_optInt _ _).comp2 fun l=>(pt_optInt _ _).comp2 fun h=>Pt2.and fun _=>Pt2.and fun _=>Pt2.one _ _
  · cases mx<;>(try dsimp only)<;>first|exact Pt2.no|skip
    generalize tiOf P t=ob;rcases ob with _|⟨sh,sz,z⟩<;>(try dsimp only)<;>first|exact Pt2.no|skip
    cases sh<;>(try dsimp only)<;>first|exact Pt2.no|exact Pt2.and fun _=>(pt_optInt _ _).comp2 fun l=>(pt_optInt _ _).comp2 fun h=>Pt2.and fun _=>Pt2.and fun _=>Pt2.one _ _
  · cases mx<;>(try dsimp only)<;>first|exact Pt2.no|skip
    cases lo<;>(try dsimp only)<;>first|exact Pt2.no|skip
    generalize tiOf P t=ob;rcases ob with _|⟨sh,sz,z⟩<;>(try dsimp only)<;>first|exact Pt2.no|skip
    cases sh<;>(try dsimp only)<;>first|exact Pt2.no|exact(pt_optInt _ _).comp2 fun h=>Pt2.and fun _=>Pt2.one _ _
theorem pt_aAppend (P:Program)(B:Nat)(t t2:TypeId)(σ:Store)(s x:AV):Pt2 (aAppend P B t t2 σ s x):=by
  unfold aAppend
  generalize tiOf P t=ob;rcases ob with _|⟨sh,sz,z⟩<;>(try dsimp only)<;>first|exact Pt2.no|skip
  cases sh<;>(try dsimp only)<;>first|exact Pt2.no|skip
  generalize P.underlying t2=ob
  cases ob with
  |none=>exact Pt2.no
  |some d=>
    cases d<;>(try dsimp only)<;>first|exact Pt2.no|skip
    refine Pt2.and fun _=>Pt2.and fun _=>Pt2.and fun _=>(pt_elemsK σ x).comp2 fun new=>Pt2.and fun _=>Pt2.and fun _=> ?_
    cases s<;>(try dsimp only)<;>first|exact Pt2.no|skip
    · next v=>
        cases v<;>(try dsimp only)<;>first|exact Pt2.no|skip
        next a n c=>
          cases a<;>cases n<;>cases c<;>(try dsimp only)<;>first|exact Pt2.no|exact Pt2.and fun _=>Pt2.and fun _=>Pt2.one _ _
    · next l _=>generalize σ[l]? =ob;rcases ob with _|(_|⟨(_|_),cs⟩|⟨(_|_),sz,es⟩)<;>(try dsimp only)<;>first|exact Pt2.no|exact Pt2.and fun _=>Pt2.and fun _=>Pt2.and fun _=>Pt2.and fun _=>Pt2.one _ _
theorem pt_aBin (P:Program)(op:BinOp)(t:TypeId)(x y:AV):Pt (aBin P op t x y):=by
  unfold aBin
  cases x<;>(try dsimp only)<;>first|exact Pt.no|skip
  next v=>
    cases v<;>(try dsimp only)<;>first|exact Pt.no|skip
    all_goals(cases y<;>(try dsimp only)<;>first|exact Pt.no|skip)
    all_goals(rename_i v;cases v<;>(try dsimp only)<;>first|exact Pt.no|skip)
    all_goals first
      |(cases op<;>(try dsimp only)<;>first|exact Pt.no|exact Pt.and fun _=>Pt.one _|exact Pt.one _|exact Pt.and fun _=>Pt.no|exact Pt.and fun _=>Pt.and fun _=>Pt.one _)
      | (rename_i a' n' c'
         cases a'<;>cases n'<;>cases c'<;>(try dsimp only)<;>first|exact Pt.no|(cases op<;>(try dsimp only)<;>first|exact Pt.and fun _=>Pt.one _|exact Pt.and fun _=>Pt.no))
  next es=>
    cases y<;>(try dsimp only)<;>first|exact Pt.no|skip
    rename_i v
    cases v<;>(try dsimp only)<;>first|exact Pt.no|skip
    rename_i a' n' c'
    cases a'<;>cases n'<;>cases c'<;>(try dsimp only)<;>first|exact Pt.no|(cases op<;>(try dsimp only)<;>first|exact Pt.and fun _=>Pt.and fun _=>Pt.one _|exact Pt.and fun _=>Pt.and fun _=>Pt.no)
  next xs=>
    cases y<;>(try dsimp only)<;>first|exact Pt.no|skip
    next ys=>
      generalize pairOf xs=p
      generalize pairOf ys=q
      generalize tripOf xs=p'
      generalize tripOf ys=q'
      generalize quadOf xs=p2
      generalize quadOf ys=q2
      cases p<;>cases q<;>(try dsimp only)
      all_goals first
        |(cases op<;>(try dsimp only)<;>first|exact Pt.and fun _=>Pt.no|exact Pt.and fun _=>Pt.one _)
        | (cases p' <;> cases q' <;> (try dsimp only)
           all_goals first
            |(cases op<;>(try dsimp only)<;>first|exact Pt.and fun _=>Pt.no|exact Pt.and fun _=>Pt.one _)
            | (cases p2 <;> cases q2 <;> (try dsimp only) <;> first | exact Pt.no | skip
               cases op<;>(try dsimp only)<;>first|exact Pt.and fun _=>Pt.no|exact Pt.and fun _=>Pt.one _))
theorem pt_aUn (op:UnOp)(x:AV):Pt (aUn op x):=by
  unfold aUn
  cases op<;>(try dsimp only)<;>first|exact Pt.no|skip
  all_goals(cases x<;>(try dsimp only)<;>first|exact Pt.no|skip)
  all_goals(next v=>cases v<;>(try dsimp only)<;>first|exact Pt.no|exact Pt.one _)
theorem pt_aConv (P:Program)(s d:TypeId)(σ:Store)(x:AV):Pt (aConv P s d σ x):=by
  unfold aConv
  generalize P.underlying s=ob;rcases ob with _|a<;>(try dsimp only)<;>first|exact Pt.no|skip
  cases a<;>(try dsimp only)<;>first|exact Pt.no|skip
  all_goals(generalize P.underlying d=ob;rcases ob with _|a<;>(try dsimp only)<;>first|exact Pt.no|skip)
  all_goals(cases a<;>(try dsimp only)<;>first|exact Pt.no|skip)
  all_goals(cases x<;>(try dsimp only)<;>first|exact Pt.no|skip)
  · next v=>cases v<;>(try dsimp only)<;>first|exact Pt.no|exact Pt.one _
  · next e es=>
    refine Pt.and fun _=> ?_
    generalize u8s es=o
    cases o<;>(try dsimp only)<;>first|exact Pt.no|exact Pt.one _
  · next e l n=>
    refine Pt.and fun _=> ?_
    generalize σ[l]? =ob;rcases ob with _|(_|⟨(_|_),cs⟩|⟨(_|_),sz,es⟩)<;>(try dsimp only)<;>first|exact Pt.no|skip
    refine Pt.and fun _=> ?_
    generalize u8s es=o
    cases o<;>(try dsimp only)<;>first|exact Pt.no|exact Pt.one _
theorem pt_aBuiltin (P:Program)(B:Nat)(b:Builtin)(ts:Array TypeId)(σ:Store)(args:List AV):Pt2 (aBuiltin P B b ts σ args):=by
  unfold aBuiltin
  cases b<;>(try dsimp only)<;>first|exact Pt2.no|skip
  all_goals(rcases args with _|⟨x,_|⟨y,_|⟨z,r⟩⟩⟩<;>(try dsimp only)<;>first|exact Pt2.no|skip)
  · generalize ts[0]? =ob1;generalize ts[1]? =ob2
    cases ob1<;>(try dsimp only)<;>first|exact Pt2.no|skip
    cases ob2<;>(try dsimp only)<;>first|exact Pt2.no|exact pt_aAppend _ _ _ _ _ _ _
  · generalize ts[0]? =ob
    cases ob<;>(try dsimp only)<;>first|exact Pt2.no|exact(pt_aLen _ _ _ _).toPt2 _
  all_goals(cases x<;>(try dsimp only)<;>first|exact Pt2.no|skip)
  all_goals(rename_i v;cases v<;>(try dsimp only)<;>first|exact Pt2.no|skip)
  all_goals(cases y<;>(try dsimp only)<;>first|exact Pt2.no|skip)
  all_goals(rename_i v;cases v<;>(try dsimp only)<;>first|exact Pt2.no|exact Pt2.one _ _)
theorem pt_aef (P:Program)(B:Nat)(op:Op)(ρ:Operand→AV)(σ:Store):Pt2 (aef P B op ρ σ):=by
  unfold aef
  cases op<;>(try dsimp only)<;>first|exact Pt2.no|exact Pt2.one _ _|skip
  case pick c a b=>
    generalize ρ c=ob
    cases ob<;>(try dsimp only)<;>first|exact Pt2.no|skip
    rename_i v;cases v<;>(try dsimp only)<;>first|exact Pt2.no|exact Pt2.one _ _
  case alloc t=>
    generalize tiOf P t=ob
    cases ob<;>(try dsimp only)<;>first|exact Pt2.no|exact Pt2.and fun _=>Pt2.one _ _
  case box t x=>exact(pt_cellsK σ (ρ x)).comp2 fun cs=>Pt2.one _ _
  case build t parts=>exact pt_aBuild _ _ _ _
  case buildSlice t len parts=>exact pt_aBuildSlice _ _ _ _ _ _
  case load t x=>exact(pt_aLoad _ _ _ _).toPt2 _
  case store t a x=>exact(pt_aStore _ _ _ _ _).comp2 fun _=>Pt2.one _ _
  case nilCheck x=>exact Pt2.and fun _=>Pt2.one _ _
  case binOp op t x y yt=>exact(pt_aBin _ _ _ _ _).toPt2 _
  case unOp op t x=>exact(pt_aUn _ _).toPt2 _
  case convert s d x=>exact(pt_aConv _ _ _ _ _).toPt2 _
  case makeSlice t l c=>exact pt_aMakeSlice _ _ _ _ _ _
  case slice t x lo hi mx=>exact pt_aSlice _ _ _ _ _ _ _
  case fieldAddr t x f=>exact(pt_aFieldAddr _ _ _ _ _).toPt2 _
  case indexAddr t x i=>exact(pt_aIndexAddr _ _ _ _ _).toPt2 _
  case index t x i=>exact(pt_aIndex _ _ _ _).toPt2 _
  case extract x i=>
    generalize ρ x=ob
    cases ob<;>(try dsimp only)<;>first|exact Pt2.no|exact Pt2.and fun _=>Pt2.one _ _
  case call c=>
    obtain⟨cal,args,ts⟩:=c
    cases cal<;>(try dsimp only)<;>first|exact Pt2.no|exact pt_aBuiltin _ _ _ _ _ _
end Go.Vl
