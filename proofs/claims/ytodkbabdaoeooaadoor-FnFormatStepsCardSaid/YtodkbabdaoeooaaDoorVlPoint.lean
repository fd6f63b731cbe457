/- A part of the proof. -/
import Derived.Test.YtodkbabdaoeooaaDoorVlDraw
set_option linter.all false
namespace Go.Vl
open Go Go.RowKit
attribute [local simp] lk ZAI ev ZBL AV.adv Sh.isAgg
def Pt {α:Type}(F:(α->Prop)->Prop):Prop:=∀K,F K->∃r,K r/\∀K':α->Prop,K' r->F K'
theorem Pt.no {α:Type}:Pt (fun _:α->Prop=>False):=fun _ h=>h.elim
theorem Pt.one {α:Type}(r:α):Pt (fun K:α->Prop=>K r):=fun _ h=>⟨r,h,fun _ h'=>h'⟩
theorem Pt.and {α:Type}{c:Prop}{F:(α->Prop)->Prop}(h:c->Pt F):Pt (fun K=>c/\F K):=fun K hk=>
  let⟨r,h1,h2⟩:=h hk.1 K hk.2
  ⟨r,h1,fun K' hk'=>⟨hk.1,h2 K' hk'⟩⟩
theorem Pt.ite {α:Type}{c:Prop}[Decidable c]{F G:(α->Prop)->Prop}(h:c->Pt F)(h':¬c->Pt G):Pt (fun K=>if c then F K else G K):=by
  by_cases hc:c
  · simp only[hc,if_true];exact h hc
  · simp only[hc,if_false];exact h' hc
theorem Pt.comp {α β:Type}{F:(α->Prop)->Prop}(h:Pt F){G:α->(β->Prop)->Prop}(hG:∀a,Pt (G a)):Pt (fun K=>F (fun a=>G a K)):=fun K hk=>
  let⟨a,h1,h2⟩:=h _ hk
  let⟨r,h3,h4⟩:=hG a K h1
  ⟨r,h3,fun K' hk'=>h2 _ (h4 K' hk')⟩
theorem ZCK (σ:ZA)(x:AV):Pt (x.cellsK σ):=by
  cases x<;>first|exact Pt.one _|exact Pt.and fun _=>Pt.one _
theorem ZKk (e:List AV)(off n:Nat):Pt (rdE e off n):=Pt.ite (fun _=>Pt.one _) fun _=>Pt.and fun _=>Pt.one _
theorem ZQQ (σ:ZA)(p:AV)(n:Nat):Pt (rdN σ p n):=by
  cases p with
  |rptr e off=>exact ZKk e off n
  |ptr l off=>unfold rdN;(try dsimp only);generalize σ[l]? =ob;rcases ob with _|(_|⟨(_|_),cs⟩|⟨(_|_),sz,es⟩)<;>(try dsimp only)<;>first|exact Pt.no|exact ZKk _ _ _
  |eptr l k i off=>unfold rdN;(try dsimp only);generalize σ[l]? =ob;rcases ob with _|(_|⟨(_|_),cs⟩|⟨(_|_),sz,es⟩)<;>(try dsimp only)<;>first|exact Pt.no|exact Pt.and fun _=>Pt.and fun _=>ZKk _ _ _
  |_=>exact Pt.no
theorem ZQR (σ:ZA)(p:AV):Pt (rd1 σ p):=by
  cases p with
  |rptr e off=>exact Pt.and fun _=>Pt.one _
  |ptr l off=>unfold rd1;(try dsimp only);generalize σ[l]? =ob;rcases ob with _|(_|⟨(_|_),cs⟩|⟨(_|_),sz,es⟩)<;>(try dsimp only)<;>first|exact Pt.no|exact Pt.and fun _=>Pt.one _
  |eptr l k i off=>unfold rd1;(try dsimp only);generalize σ[l]? =ob;rcases ob with _|(_|⟨(_|_),cs⟩|⟨(_|_),sz,es⟩)<;>(try dsimp only)<;>first|exact Pt.no|exact Pt.and fun _=>Pt.and fun _=>Pt.and fun _=>Pt.one _
  |_=>exact Pt.no
theorem ZMR (P:Program)(t:TypeId)(σ:ZA)(p:AV):Pt (ZC6 P t σ p):=by
  unfold ZC6
  generalize Zq P t=ob
  cases ob with
  |none=>exact Pt.no
  |some i=>exact Pt.ite (fun _=>(ZQQ σ p i.size).comp fun cs=>Pt.one _) fun _=>ZQR σ p
theorem ZKj (e:List AV)(off:Nat)(cs:List AV):Pt (wrE e off cs):=Pt.ite (fun _=>Pt.one _) fun _=>Pt.and fun _=>Pt.one _
theorem ZQP (σ:ZA)(p:AV)(cs:List AV):Pt (wrN σ p cs):=by
  cases p with
  |ptr l off=>unfold wrN;(try dsimp only);generalize σ[l]? =ob;rcases ob with _|(_|⟨(_|_),cs⟩|⟨(_|_),sz,es⟩)<;>(try dsimp only)<;>first|exact Pt.no|exact(ZKj _ _ _).comp fun _=>Pt.one _
  |eptr l k i off=>unfold wrN;(try dsimp only);generalize σ[l]? =ob;rcases ob with _|(_|⟨(_|_),cs⟩|⟨(_|_),sz,es⟩)<;>(try dsimp only)<;>first|exact Pt.no|exact Pt.and fun _=>Pt.and fun _=>(ZKj _ _ _).comp fun _=>Pt.one _
  |_=>exact Pt.no
theorem ZKo (P:Program)(t:TypeId)(σ:ZA)(p v:AV):Pt (ZEO P t σ p v):=by
  unfold ZEO
  generalize Zq P t=ob
  cases ob with
  |none=>exact Pt.no
  |some i=>exact(ZCK σ v).comp fun cs=>Pt.and fun _=>Pt.and fun _=>ZQP σ p cs
theorem ZFT (P:Program)(t:TypeId)(σ:ZA)(p:AV)(f:Nat):Pt (ZAE P t σ p f):=by
  unfold ZAE
  generalize Zq P t=ob;rcases ob with _|⟨sh,sz,z⟩<;>(try dsimp only)
  · exact Pt.no
  · cases sh<;>(try dsimp only)<;>first|exact Pt.no|skip
    next offs=>
      generalize offs[f]? =ob;rcases ob with _|⟨o,_|s⟩<;>(try dsimp only)<;>first|exact Pt.no|exact Pt.and fun _=>Pt.one _
theorem ZFS (P:Program)(t:TypeId)(σ:ZA)(x i:AV):Pt (Zo P t σ x i):=by
  unfold Zo
  cases i<;>(try dsimp only)<;>first|exact Pt.no|skip
  next v=>
    cases v<;>(try dsimp only)<;>first|exact Pt.no|skip
    next k n=>
      generalize Zq P t=ob;rcases ob with _|⟨sh,sz,z⟩<;>(try dsimp only)
      · exact Pt.no
      · cases sh<;>(try dsimp only)<;>first|exact Pt.no|skip
        · cases x<;>(try dsimp only)<;>first|exact Pt.no|skip
          · exact Pt.and fun _=>Pt.and fun _=>Pt.and fun _=>Pt.one _
          · next l _=>generalize σ[l]? =ob;rcases ob with _|(_|⟨(_|_),cs⟩|⟨(_|_),sz,es⟩)<;>(try dsimp only)<;>first|exact Pt.no|exact Pt.and fun _=>Pt.and fun _=>Pt.and fun _=>Pt.and fun _=>Pt.one _
        · next len s=>cases s<;>(try dsimp only)<;>first|exact Pt.no|exact Pt.and fun _=>Pt.and fun _=>Pt.and fun _=>Pt.one _
theorem ZKq (P:Program)(t:TypeId)(x i:AV):Pt (ZDI P t x i):=by
  unfold ZDI
  cases x<;>(try dsimp only)<;>first|exact Pt.no|skip
  · next v=>
    cases v<;>(try dsimp only)<;>first|exact Pt.no|skip
    next s=>
      cases i<;>(try dsimp only)<;>first|exact Pt.no|skip
      next v=>cases v<;>(try dsimp only)<;>first|exact Pt.no|exact Pt.and fun _=>Pt.and fun _=>Pt.and fun _=>Pt.one _
  · next cs=>
    cases i<;>(try dsimp only)<;>first|exact Pt.no|skip
    next v=>
      cases v<;>(try dsimp only)<;>first|exact Pt.no|skip
      generalize P.underlying t=ob
      rcases ob with _|d<;>(try dsimp only)
      · exact Pt.no
      · cases d<;>(try dsimp only)<;>first|exact Pt.no|skip
        next len e=>
          generalize Zq P e=ob2
          rcases ob2 with _|j<;>(try dsimp only)
          · exact Pt.no
          · exact Pt.and fun _=>Pt.and fun _=>Pt.and fun _=>Pt.and fun _=>Pt.and fun _=>Pt.one _
theorem ZOZ (P:Program)(t:TypeId)(σ:ZA)(x:AV):Pt (ZNS P t σ x):=by
  unfold ZNS
  generalize P.underlying t=ob
  cases ob with
  |none=>exact Pt.no
  |some d=>
    (try dsimp only)
    cases d<;>(try dsimp only)<;>first|exact Pt.no|exact Pt.one _|skip
    · cases x<;>(try dsimp only)<;>first|exact Pt.no|skip
      next v=>
        cases v<;>(try dsimp only)<;>first|exact Pt.no|exact Pt.one _
    · cases x<;>(try dsimp only)<;>first|exact Pt.no|exact Pt.one _|skip
      · next v=>
          cases v<;>(try dsimp only)<;>first|exact Pt.no|skip
          next a n c=>
            cases a<;>cases n<;>cases c<;>(try dsimp only)<;>first|exact Pt.no|exact Pt.one _
theorem ZKn (σ:ZA)(x:AV):Pt (ZDH σ x):=by
  unfold ZDH
  cases x<;>(try dsimp only)<;>first|exact Pt.no|exact Pt.one _|skip
  · next v=>
      cases v<;>(try dsimp only)<;>first|exact Pt.no|skip
      next a n c=>
        cases a<;>cases n<;>cases c<;>(try dsimp only)<;>first|exact Pt.no|exact Pt.one _
  · next l _=>generalize σ[l]? =ob;rcases ob with _|(_|⟨(_|_),cs⟩|⟨(_|_),sz,es⟩)<;>(try dsimp only)<;>first|exact Pt.no|exact Pt.and fun _=>Pt.one _
def Pt2 {α β:Type}(F:(α->β->Prop)->Prop):Prop:=∀K,F K->∃r s,K r s/\∀K':α->β->Prop,K' r s->F K'
theorem Pt2.no {α β:Type}:Pt2 (fun _:α->β->Prop=>False):=fun _ h=>h.elim
theorem Pt2.one {α β:Type}(r:α)(s:β):Pt2 (fun K:α->β->Prop=>K r s):=fun _ h=>⟨r,s,h,fun _ h'=>h'⟩
theorem Pt2.and {α β:Type}{c:Prop}{F:(α->β->Prop)->Prop}(h:c->Pt2 F):Pt2 (fun K=>c/\F K):=fun K hk=>
  let⟨r,s,h1,h2⟩:=h hk.1 K hk.2
  ⟨r,s,h1,fun K' hk'=>⟨hk.1,h2 K' hk'⟩⟩
theorem Pt.comp2 {α β γ:Type}{F:(α->Prop)->Prop}(h:Pt F){G:α->(β->γ->Prop)->Prop}(hG:∀a,Pt2 (G a)):Pt2 (fun K=>F (fun a=>G a K)):=fun K hk=>
  let⟨a,h1,h2⟩:=h _ hk
  let⟨r,s,h3,h4⟩:=hG a K h1
  ⟨r,s,h3,fun K' hk'=>h2 _ (h4 K' hk')⟩
theorem Pt2.comp2 {α β γ δ:Type}{F:(α->δ->Prop)->Prop}(h:Pt2 F){G:α->δ->(β->γ->Prop)->Prop}(hG:∀a d,Pt2 (G a d)):Pt2 (fun K=>F (fun a d=>G a d K)):=fun K hk=>
  let⟨a,d,h1,h2⟩:=h _ hk
  let⟨r,s,h3,h4⟩:=hG a d K h1
  ⟨r,s,h3,fun K' hk'=>h2 _ (h4 K' hk')⟩
theorem Pt.toPt2 {α β:Type}{F:(α->Prop)->Prop}(h:Pt F)(s:β):Pt2 (fun K:α->β->Prop=>F (fun a=>K a s)):=h.comp2 fun a=>Pt2.one a s
theorem ZEk :∀(cs:List AV) (σ:ZA),Pt2 (frz σ cs)
  | [],σ=>Pt2.one _ _
  |c::r,σ=>by
    have gen:Pt2 (fun K=>frz σ r (fun r' σ'=>K (c::r') σ')):=(ZEk r σ).comp2 fun a d=>Pt2.one _ _
    cases c with
    |own l n=>show Pt2 (fun K=>frz σ (.own l n::r) K);simp only[frz];generalize σ[l]? =ob;rcases ob with _|(_|⟨(_|_),cs⟩|⟨(_|_),sz,es⟩)<;>(try dsimp only)<;>first|exact Pt2.no|exact Pt2.and fun _=>Pt2.and fun _=>(ZEk r _).comp2 fun a d=>Pt2.one _ _
    |lit v=>exact gen
    |junk=>exact gen
    |arr es=>exact gen
    |rptr e o=>exact gen
    |ptr l o=>exact gen
    |eptr l n i o=>exact gen
    |pre l n k=>exact gen
    |agg cs=>exact gen
    |tup cs=>exact gen
    |fn f xs ys=>exact gen
theorem ZKl :∀(es:List (List AV)) (σ:ZA),Pt2 (ZM1 σ es)
  | [],σ=>Pt2.one _ _
  |e::r,σ=>(ZEk e σ).comp2 fun e' σ'=>(ZKl r σ').comp2 fun a d=>Pt2.one _ _
theorem ZIX (place:Nat->Option (Nat×Nat))(σ:ZA):∀(parts:List (Nat×AV)) (cs:List AV),Pt (ZBU place σ cs parts)
  | [],cs=>Pt.one _
  |(i,x)::rest,cs=>by
    show Pt (fun K=>ZBU place σ cs ((i,x)::rest) K)
    simp only[ZBU]
    generalize place i=ob;rcases ob with _|⟨off,size⟩
    · exact Pt.no
    · exact(ZCK σ x).comp fun new=>Pt.and fun _=>(ZKj _ _ _).comp fun cs'=>ZIX place σ rest cs'
theorem ZGJ (σ:ZA)(sz:Nat):∀(parts:List (Nat×AV)) (j:Nat),Pt (ZBu σ sz j parts)
  | [],j=>Pt.one _
  |(i,x)::rest,j=>by
    show Pt (fun K=>ZBu σ sz j ((i,x)::rest) K)
    simp only[ZBu]
    exact Pt.and fun _=>(ZCK σ x).comp fun e=>Pt.and fun _=>(ZGJ σ sz rest (j+1)).comp fun es=>Pt.one _
theorem ZMQ (es:List (List AV))(σ:ZA):Pt2 (bfrzs σ es):=by
  by_cases h:σ.any isK=true/\σ.any isP=true
  · have:bfrzs σ es=fun K=>K es σ:=by funext K;unfold bfrzs;rw[if_pos h]
    rw[this];exact Pt2.one _ _
  · have:bfrzs σ es=ZM1 σ es:=by funext K;unfold bfrzs;rw[if_neg h]
    rw[this];exact ZKl es σ
theorem ZOY (cs:List AV)(σ:ZA):Pt2 (bfrz σ cs):=by
  by_cases h:σ.any isM=true
  · have:bfrz σ cs=fun K=>K cs σ:=by funext K;unfold bfrz;rw[if_pos h]
    rw[this];exact Pt2.one _ _
  · have:bfrz σ cs=frz σ cs:=by funext K;unfold bfrz;rw[if_neg h]
    rw[this];exact ZEk cs σ
theorem ZKr (P:Program)(t:TypeId)(σ:ZA)(parts:List (Nat×AV)):Pt2 (ZBv P t σ parts):=by
  unfold ZBv
  generalize Zq P t=ob;rcases ob with _|⟨sh,sz,z⟩<;>(try dsimp only)
  · exact Pt2.no
  · cases sh<;>(try dsimp only)<;>first|exact Pt2.no|exact Pt2.and fun _=>Pt2.and fun _=>(ZIX _ σ parts _).comp2 fun cs=>(ZOY cs σ).comp2 fun a d=>Pt2.one _ _
theorem ZES (P:Program)(B:Nat)(t:TypeId)(σ:ZA)(len:Nat)(parts:List (Nat×AV)):Pt2 (ZAB P B t σ len parts):=by
  unfold ZAB
  generalize Zq P t=ob;rcases ob with _|⟨sh,sz,z⟩<;>(try dsimp only)
  · exact Pt2.no
  · cases sh<;>(try dsimp only)<;>first|exact Pt2.no|exact Pt2.and fun _=>Pt2.and fun _=>Pt2.and fun _=>Pt2.and fun _=>Pt2.and fun _=>(ZGJ σ _ parts 0).comp2 fun es=>(ZMQ es σ).comp2 fun a d=>Pt2.one _ _
theorem ZFR (P:Program)(B:Nat)(t:TypeId)(σ:ZA)(l c:AV):Pt2 (ZAN P B t σ l c):=by
  unfold ZAN
  generalize Zq P t=ob;rcases ob with _|⟨sh,sz,z⟩<;>(try dsimp only)
  · exact Pt2.no
  · cases sh<;>(try dsimp only)<;>first|exact Pt2.no|skip
    cases l<;>(try dsimp only)<;>first|exact Pt2.no|skip
    next v=>
      cases v<;>(try dsimp only)<;>first|exact Pt2.no|skip
      cases c<;>(try dsimp only)<;>first|exact Pt2.no|skip
      next v=>
        cases v<;>(try dsimp only)<;>first|exact Pt2.no|exact Pt2.and fun _=>Pt2.and fun _=>Pt2.and fun _=>Pt2.and fun _=>Pt2.and fun _=>Pt2.and fun _=>Pt2.and fun _=>Pt2.one _ _
theorem ZBJ (x:Option AV)(d:Nat):Pt (ZAg x d):=by
  unfold ZAg
  cases x with
  |none=>exact Pt.one _
  |some v=>
    cases v<;>(try dsimp only)<;>first|exact Pt.no|skip
    next v=>cases v<;>(try dsimp only)<;>first|exact Pt.no|exact Pt.and fun _=>Pt.one _
theorem ZKp (P:Program)(t:TypeId)(σ:ZA)(x:AV)(lo hi mx:Option AV):Pt2 (ZBt P t σ x lo hi mx):=by
  unfold ZBt
  cases x<;>(try dsimp only)<;>first|exact Pt2.no|skip
  · next v=>
      cases v<;>(try dsimp only)<;>first|exact Pt2.no|skip
      cases mx<;>(try dsimp only)<;>first|exact Pt2.no|exact Pt2.and fun _=>(ZBJ _ _).comp2 fun l=>(ZBJ _ _).comp2 fun h=>Pt2.and fun _=>Pt2.and fun _=>Pt2.one _ _
  · cases mx<;>(try dsimp only)<;>first|exact Pt2.no|skip
    generalize Zq P t=ob;rcases ob with _|⟨sh,sz,z⟩<;>(try dsimp only)<;>first|exact Pt2.no|skip
    cases sh<;>(try dsimp only)<;>first|exact Pt2.no|exact Pt2.and fun _=>(ZBJ _ _).comp2 fun l=>(ZBJ _ _).comp2 fun h=>Pt2.and fun _=>Pt2.and fun _=>Pt2.one _ _
  · cases mx<;>(try dsimp only)<;>first|exact Pt2.no|skip
    cases lo<;>(try dsimp only)<;>first|exact Pt2.no|skip
    generalize Zq P t=ob;rcases ob with _|⟨sh,sz,z⟩<;>(try dsimp only)<;>first|exact Pt2.no|skip
    cases sh<;>(try dsimp only)<;>first|exact Pt2.no|exact(ZBJ _ _).comp2 fun h=>Pt2.and fun _=>Pt2.one _ _
theorem ZJS (P:Program)(B:Nat)(t t2:TypeId)(σ:ZA)(s x:AV):Pt2 (ZCA P B t t2 σ s x):=by
  unfold ZCA
  generalize Zq P t=ob;rcases ob with _|⟨sh,sz,z⟩<;>(try dsimp only)<;>first|exact Pt2.no|skip
  cases sh<;>(try dsimp only)<;>first|exact Pt2.no|skip
  generalize P.underlying t2=ob
  cases ob with
  |none=>exact Pt2.no
  |some d=>
    cases d<;>(try dsimp only)<;>first|exact Pt2.no|skip
    refine Pt2.and fun _=>Pt2.and fun _=>Pt2.and fun _=>(ZKn σ x).comp2 fun new=>Pt2.and fun _=>Pt2.and fun _=> ?_
    cases s<;>(try dsimp only)<;>first|exact Pt2.no|skip
    · next v=>
        cases v<;>(try dsimp only)<;>first|exact Pt2.no|skip
        next a n c=>
          cases a<;>cases n<;>cases c<;>(try dsimp only)<;>first|exact Pt2.no|exact Pt2.and fun _=>Pt2.and fun _=>Pt2.one _ _
    · next l _=>generalize σ[l]? =ob;rcases ob with _|(_|⟨(_|_),cs⟩|⟨(_|_),sz,es⟩)<;>(try dsimp only)<;>first|exact Pt2.no|exact Pt2.and fun _=>Pt2.and fun _=>Pt2.and fun _=>Pt2.and fun _=>Pt2.one _ _
theorem ZKs (P:Program)(op:BinOp)(t:TypeId)(x y:AV):Pt (ZPi P op t x y):=by
  unfold ZPi
  cases x<;>(try dsimp only)<;>first|exact Pt.no|skip
  next v=>
    cases v<;>(try dsimp only)<;>first|exact Pt.no|skip
    all_goals(cases y<;>(try dsimp only)<;>first|exact Pt.no|skip)
    all_goals(rename_i v;cases v<;>(try dsimp only)<;>first|exact Pt.no|skip)
    all_goals first
      |(cases op<;>(try dsimp only)<;>first|exact Pt.no|exact Pt.and fun _=>Pt.one _|exact Pt.one _|exact Pt.and fun _=>Pt.no|exact Pt.and fun _=>Pt.and fun _=>Pt.one _)
      | (rename_i a' n' c'
         cases a'<;>cases n'<;>cases c'<;>(try dsimp only)<;>first|exact Pt.no|(cases op<;>(try dsimp only)<;>first|exact Pt.and fun _=>Pt.one _|exact Pt.and fun _=>Pt.no))
  next es=>
    cases y<;>(try dsimp only)<;>first|exact Pt.no|skip
    rename_i v
    cases v<;>(try dsimp only)<;>first|exact Pt.no|skip
    rename_i a' n' c'
    cases a'<;>cases n'<;>cases c'<;>(try dsimp only)<;>first|exact Pt.no|(cases op<;>(try dsimp only)<;>first|exact Pt.and fun _=>Pt.and fun _=>Pt.one _|exact Pt.and fun _=>Pt.and fun _=>Pt.no)
  next xs=>
    cases y<;>(try dsimp only)<;>first|exact Pt.no|skip
    next ys=>
      generalize ZAz xs=p
      generalize ZAz ys=q
      generalize ZBH xs=p'
      generalize ZBH ys=q'
      generalize ZCI xs=p2
      generalize ZCI ys=q2
      cases p<;>cases q<;>(try dsimp only)
      all_goals first
        |(cases op<;>(try dsimp only)<;>first|exact Pt.and fun _=>Pt.no|exact Pt.and fun _=>Pt.one _)
        | (cases p' <;> cases q' <;> (try dsimp only)
           all_goals first
            |(cases op<;>(try dsimp only)<;>first|exact Pt.and fun _=>Pt.no|exact Pt.and fun _=>Pt.one _)
            | (cases p2 <;> cases q2 <;> (try dsimp only) <;> first | exact Pt.no | skip
               cases op<;>(try dsimp only)<;>first|exact Pt.and fun _=>Pt.no|exact Pt.and fun _=>Pt.one _))
theorem ZNq (op:UnOp)(x:AV):Pt (aUn op x):=by
  unfold aUn
  cases op<;>(try dsimp only)<;>first|exact Pt.no|skip
  all_goals(cases x<;>(try dsimp only)<;>first|exact Pt.no|skip)
  all_goals(next v=>cases v<;>(try dsimp only)<;>first|exact Pt.no|exact Pt.one _)
theorem ZMS (P:Program)(s d:TypeId)(σ:ZA)(x:AV):Pt (ZEZ P s d σ x):=by
  unfold ZEZ
  generalize P.underlying s=ob;rcases ob with _|a<;>(try dsimp only)<;>first|exact Pt.no|skip
  cases a<;>(try dsimp only)<;>first|exact Pt.no|skip
  all_goals(generalize P.underlying d=ob;rcases ob with _|a<;>(try dsimp only)<;>first|exact Pt.no|skip)
  all_goals(cases a<;>(try dsimp only)<;>first|exact Pt.no|skip)
  all_goals(cases x<;>(try dsimp only)<;>first|exact Pt.no|skip)
  · next v=>cases v<;>(try dsimp only)<;>first|exact Pt.no|exact Pt.one _
  · next e es=>
    refine Pt.and fun _=> ?_
    generalize u8s es=o
    cases o<;>(try dsimp only)<;>first|exact Pt.no|exact Pt.one _
  · next e l n=>
    refine Pt.and fun _=> ?_
    generalize σ[l]? =ob;rcases ob with _|(_|⟨(_|_),cs⟩|⟨(_|_),sz,es⟩)<;>(try dsimp only)<;>first|exact Pt.no|skip
    refine Pt.and fun _=> ?_
    generalize u8s es=o
    cases o<;>(try dsimp only)<;>first|exact Pt.no|exact Pt.one _
theorem ZHU (P:Program)(B:Nat)(b:Builtin)(ts:Array TypeId)(σ:ZA)(args:List AV):Pt2 (ZAu P B b ts σ args):=by
  unfold ZAu
  cases b<;>(try dsimp only)<;>first|exact Pt2.no|skip
  all_goals(rcases args with _|⟨x,_|⟨y,_|⟨z,r⟩⟩⟩<;>(try dsimp only)<;>first|exact Pt2.no|skip)
  · generalize ts[0]? =ob1;generalize ts[1]? =ob2
    cases ob1<;>(try dsimp only)<;>first|exact Pt2.no|skip
    cases ob2<;>(try dsimp only)<;>first|exact Pt2.no|exact ZJS _ _ _ _ _ _ _
  · generalize ts[0]? =ob
    cases ob<;>(try dsimp only)<;>first|exact Pt2.no|exact(ZOZ _ _ _ _).toPt2 _
  all_goals(cases x<;>(try dsimp only)<;>first|exact Pt2.no|skip)
  all_goals(rename_i v;cases v<;>(try dsimp only)<;>first|exact Pt2.no|skip)
  all_goals(cases y<;>(try dsimp only)<;>first|exact Pt2.no|skip)
  all_goals(rename_i v;cases v<;>(try dsimp only)<;>first|exact Pt2.no|exact Pt2.one _ _)
theorem ZDk (P:Program)(B:Nat)(op:Op)(ρ:Operand->AV)(σ:ZA):Pt2 (aef P B op ρ σ):=by
  unfold aef
  cases op<;>(try dsimp only)<;>first|exact Pt2.no|exact Pt2.one _ _|skip
  case pick c a b=>
    generalize ρ c=ob
    cases ob<;>(try dsimp only)<;>first|exact Pt2.no|skip
    rename_i v;cases v<;>(try dsimp only)<;>first|exact Pt2.no|exact Pt2.one _ _
  case alloc t=>
    generalize Zq P t=ob
    cases ob<;>(try dsimp only)<;>first|exact Pt2.no|exact Pt2.and fun _=>Pt2.one _ _
  case box t x=>exact(ZCK σ (ρ x)).comp2 fun cs=>Pt2.one _ _
  case build t parts=>exact ZKr _ _ _ _
  case buildSlice t len parts=>exact ZES _ _ _ _ _ _
  case load t x=>exact(ZMR _ _ _ _).toPt2 _
  case store t a x=>exact(ZKo _ _ _ _ _).comp2 fun _=>Pt2.one _ _
  case nilCheck x=>exact Pt2.and fun _=>Pt2.one _ _
  case binOp op t x y yt=>exact(ZKs _ _ _ _ _).toPt2 _
  case unOp op t x=>exact(ZNq _ _).toPt2 _
  case convert s d x=>exact(ZMS _ _ _ _ _).toPt2 _
  case makeSlice t l c=>exact ZFR _ _ _ _ _ _
  case slice t x lo hi mx=>exact ZKp _ _ _ _ _ _ _
  case fieldAddr t x f=>exact(ZFT _ _ _ _ _).toPt2 _
  case indexAddr t x i=>exact(ZFS _ _ _ _ _).toPt2 _
  case index t x i=>exact(ZKq _ _ _ _).toPt2 _
  case extract x i=>
    generalize ρ x=ob
    cases ob<;>(try dsimp only)<;>first|exact Pt2.no|exact Pt2.and fun _=>Pt2.one _ _
  case call c=>
    obtain⟨cal,args,ts⟩:=c
    cases cal<;>(try dsimp only)<;>first|exact Pt2.no|exact ZHU _ _ _ _ _ _
end Go.Vl
