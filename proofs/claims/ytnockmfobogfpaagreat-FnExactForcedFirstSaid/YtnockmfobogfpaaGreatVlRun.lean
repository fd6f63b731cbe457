/- Part. -/
import Derived.Test.YtnockmfobogfpaaGreatVlStep
set_option linter.all false
open List renaming toArray->zA,map_cons->zB,map_nil->zC
namespace Go.Vl
open Go Go.RowKit
open AV renaming closed->zD,pure->zE,cellsK->zF
section
variable {P : Program} {B nb N : Nat}
variable {Q:Exit->ASt->Prop}{q:Box Q}{st:ASt}
theorem ZP1 :awp P B nb N .skip st (hold Q q)=(Q .normal st):=rfl
variable {id:Nat}
theorem ZME {l:List Oper}:awp P B nb N (.region id (zA l) false) st (hold Q q)=(ZIs P B N (hold (zA l) .mk) l st (hold (Q .normal) .mk)):=by simp only[awp,Bool.false_eq_true,if_false,hold]
variable {ops:Array Oper}
theorem ZP4 :awp P B nb N (.region id ops true) st (hold Q q)=(ADraw P B nb N (hold ops .mk) st (hold (Q .normal) .mk)):=by simp only[awp,if_true,hold]
variable {b:Code}
theorem ZRM {a:Code}:awp P B nb N (.seq a b) st (hold Q q)=(awp P B nb N a st (hold (ZQf P B nb N b Q) .mk)):=by simp only[hold];rw[awp];congr
variable {c:Operand}
theorem ZP5 {Q:Exit -> ASt -> Prop}{q:Box Q}{a:Code} : awp P B nb N (.cond c a b) st (hold Q q) = (match ev st.fr c with
    | .lit (.bool v)=>abr (v=true) (hold (awp P B nb N a st (hold Q .mk)) .mk) (hold (awp P B nb N b st (hold Q .mk)) .mk)
    |_=>False):=by
  simp only[awp,hold]
  generalize ev st.fr c=v
  cases v<;>try rfl
  next v=>cases v<;>first|exact ZH9.symm|rfl
theorem ZN8 {c:Code}:awp P B nb N (.block id c) st (hold Q q)=(awp P B nb N c st (hold (ZIq id Q) .mk)):=by simp only[hold];rw[awp];congr
theorem ZP2 {c:Code}:awp P B nb N (.loop c) st (hold Q q)=(ALoop P B nb N (hold c .mk) st (hold Q .mk)):=rfl
variable {i:Nat}
theorem ZP3 :awp P B nb N (.exit i) st (hold Q q)=(Q (.exit i) st):=rfl
theorem ZRN :awp P B nb N .ret st (hold Q q)=(Q .ret st):=rfl
variable {bQ:Box Q}
theorem ZLm {c:Code}{bc:Box c}:ZFz P B nb N (hold c bc) (hold Q bQ) .normal st=Again P B nb N (hold c .mk) (hold Q .mk) st:=rfl
theorem ZQz {c:Code}{bc:Box c}:ZFz P B nb N (hold c bc) (hold Q bQ) .ret st=Leave B nb N (hold Q .mk) .ret st:=rfl
theorem ZPD {c:Code}{bc:Box c}:ZFz P B nb N (hold c bc) (hold Q bQ) (.exit i) st=Leave B nb N (hold Q .mk) (.exit i) st:=rfl
theorem ZLk :ZQf P B nb N b Q .normal st=(awp P B nb N b st (hold Q .mk)):=rfl
theorem ZQu :ZQf P B nb N b Q .ret st=(Q .ret st):=rfl
theorem ZO9 :ZQf P B nb N b Q (.exit i) st=(Q (.exit i) st):=rfl
theorem ZMj :ZIq i Q .normal st=(Q .normal st):=rfl
theorem ZRc :ZIq i Q .ret st=(Q .ret st):=rfl
variable {j:Nat}
theorem ZQW :ZIq i Q (.exit j) st=(if j=i then Q .normal st else Q (.exit j) st):=rfl
variable {K:AV->ZE->Prop}
theorem ZQ3 {fn:Func}:ZAB P fn K .ret st=(ZBZ P st.σ st.fr fn.results.toList (hold (fun xs=>ZLZ st.σ (pack xs) (hold K .mk)) .mk)):=rfl
theorem ZLv {fn:Func}:ZAB P fn K .normal st=(ZBZ P st.σ st.fr fn.results.toList (hold (fun xs=>ZLZ st.σ (pack xs) (hold K .mk)) .mk)):=rfl
theorem ZK2 {K:ASt->Prop}{k:Box K}:ZIs P B N ops [] st (hold K k)=(K st):=rfl
variable {bo:Box ops}{rest:List Oper}
theorem ZJW {K:ASt->Prop}{k:Box K}{o:Oper}:ZIs P B N (hold ops bo) (o::rest) st (hold K k)=(ZAa (hold ops .mk) st.fr o.guard (hold (aop P B N o st (hold (fun st'=>ZIs P B N (hold ops .mk) rest st' (hold K .mk)) .mk)) .mk) (hold (ZAH N o.dst (.lit undef) st.fr st.σ (hold (fun st'=>ZIs P B N (hold ops .mk) rest st' (hold K .mk)) .mk)) .mk)):=rfl
variable {fr:Frm}
theorem ZHh {y n:Prop}{b:Box y}{b':Box n}:ZAa (hold ops bo) fr none (hold y b) (hold n b')=(y):=rfl
def ZJ7 (w:Bool)(v:AV)(y n:Prop):Prop:=match v with
  | .lit (.bool b)=>abr (b=w) (hold y .mk) (hold n .mk)
  | .lit _=>n
  |_=>False
variable {w:Bool}
theorem ZIx {b:Bool}{y n:Prop}{k:Box y}{k':Box n}:ZJ7 w (.lit (.bool b)) (hold y k) (hold n k')=abr (b=w) (hold y .mk) (hold n .mk):=rfl
theorem ZG3 {y n:Prop}{k:Box y}{k':Box n}:ZJ7 w (.lit undef) (hold y k) (hold n k')=n:=rfl
theorem ZHg {y n:Prop}{b:Box y}{b':Box n} : ZAa (hold ops bo) fr (some (j, w)) (hold y b) (hold n b') = (match (ops[j]?).bind (·.dst) with
      |none=>False
      |some d=>ZJ7 w (lk fr d) (hold y .mk) (hold n .mk)):=by
  simp only[ZAa,hold]
  generalize(ops[j]?).bind (fun x=>x.dst)=od
  cases od with
  |none=>rfl
  |some d=>
    simp only[]
    generalize lk fr d=v
    cases v<;>try rfl
    next v=>cases v<;>first|(simp only[yb,ZJ7,Option.some.injEq];exact ZH9.symm)|(simp[yb,ZJ7,hold];done)|rfl
variable {x:Operand}{d:Option Nat}{t:TypeId}{p:String}{es:Array Edge}{g:Option (Nat×Bool)}
theorem ZPf {K:ASt->Prop}{k:Box K}:aop P B N ⟨d,.move x,t,p,es,g⟩ st (hold K k)=(aef P B (.move x) (ev st.fr) st.σ (hold (fun r σ'=>ZAH N d r st.fr σ' (hold K .mk)) .mk)):=rfl
variable {σ:ZE}
theorem ZPH {K:AV->Prop}{k:Box K}:ZCj P B (.move x) fr σ (hold K k)=(aef P B (.move x) (ev fr) σ (hold (fun r σ'=>chk (σ'=σ) (hold (K r) .mk)) .mk)):=rfl
theorem ZL2 {K:ASt->Prop}{k:Box K}:aop P B N ⟨d,.assign x,t,p,es,g⟩ st (hold K k)=(aef P B (.assign x) (ev st.fr) st.σ (hold (fun r σ'=>ZAH N d r st.fr σ' (hold K .mk)) .mk)):=rfl
theorem ZLo {K:AV->Prop}{k:Box K}:ZCj P B (.assign x) fr σ (hold K k)=(aef P B (.assign x) (ev fr) σ (hold (fun r σ'=>chk (σ'=σ) (hold (K r) .mk)) .mk)):=rfl
variable {a:Operand}
theorem ZPe {b:Operand}{K:ASt->Prop}{k:Box K}:aop P B N ⟨d,.pick c a b,t,p,es,g⟩ st (hold K k)=(aef P B (.pick c a b) (ev st.fr) st.σ (hold (fun r σ'=>ZAH N d r st.fr σ' (hold K .mk)) .mk)):=rfl
theorem ZPG {b:Operand}{K:AV->Prop}{k:Box K}:ZCj P B (.pick c a b) fr σ (hold K k)=(aef P B (.pick c a b) (ev fr) σ (hold (fun r σ'=>chk (σ'=σ) (hold (K r) .mk)) .mk)):=rfl
variable {e:TypeId}
theorem ZNu {K:ASt->Prop}{k:Box K}:aop P B N ⟨d,.alloc e,t,p,es,g⟩ st (hold K k)=(aef P B (.alloc e) (ev st.fr) st.σ (hold (fun r σ'=>ZAH N d r st.fr σ' (hold K .mk)) .mk)):=rfl
theorem ZNZ {K:AV->Prop}{k:Box K}:ZCj P B (.alloc e) fr σ (hold K k)=(aef P B (.alloc e) (ev fr) σ (hold (fun r σ'=>chk (σ'=σ) (hold (K r) .mk)) .mk)):=rfl
theorem ZQ6 {K:ASt->Prop}{k:Box K}:aop P B N ⟨d,.box e x,t,p,es,g⟩ st (hold K k)=(aef P B (.box e x) (ev st.fr) st.σ (hold (fun r σ'=>ZAH N d r st.fr σ' (hold K .mk)) .mk)):=rfl
theorem ZQ0 {K:AV->Prop}{k:Box K}:ZCj P B (.box e x) fr σ (hold K k)=(aef P B (.box e x) (ev fr) σ (hold (fun r σ'=>chk (σ'=σ) (hold (K r) .mk)) .mk)):=rfl
variable {ty:TypeId}{parts:Array (Nat×Operand)}
theorem ZNs {K:ASt->Prop}{k:Box K}:aop P B N ⟨d,.build ty parts,t,p,es,g⟩ st (hold K k)=(aef P B (.build ty parts) (ev st.fr) st.σ (hold (fun r σ'=>ZAH N d r st.fr σ' (hold K .mk)) .mk)):=rfl
theorem ZNX {K:AV->Prop}{k:Box K}:ZCj P B (.build ty parts) fr σ (hold K k)=(aef P B (.build ty parts) (ev fr) σ (hold (fun r σ'=>chk (σ'=σ) (hold (K r) .mk)) .mk)):=rfl
variable {len:Nat}
theorem ZGF {K:ASt->Prop}{k:Box K}:aop P B N ⟨d,.buildSlice ty len parts,t,p,es,g⟩ st (hold K k)=(aef P B (.buildSlice ty len parts) (ev st.fr) st.σ (hold (fun r σ'=>ZAH N d r st.fr σ' (hold K .mk)) .mk)):=rfl
theorem ZF5 {K:AV->Prop}{k:Box K}:ZCj P B (.buildSlice ty len parts) fr σ (hold K k)=(aef P B (.buildSlice ty len parts) (ev fr) σ (hold (fun r σ'=>chk (σ'=σ) (hold (K r) .mk)) .mk)):=rfl
theorem ZPg {K:ASt->Prop}{k:Box K}:aop P B N ⟨d,.load ty x,t,p,es,g⟩ st (hold K k)=(aef P B (.load ty x) (ev st.fr) st.σ (hold (fun r σ'=>ZAH N d r st.fr σ' (hold K .mk)) .mk)):=rfl
theorem ZPI {K:AV->Prop}{k:Box K}:ZCj P B (.load ty x) fr σ (hold K k)=(aef P B (.load ty x) (ev fr) σ (hold (fun r σ'=>chk (σ'=σ) (hold (K r) .mk)) .mk)):=rfl
theorem ZNo {v:Operand}{K:ASt->Prop}{k:Box K}:aop P B N ⟨d,.store ty x v,t,p,es,g⟩ st (hold K k)=(aef P B (.store ty x v) (ev st.fr) st.σ (hold (fun r σ'=>ZAH N d r st.fr σ' (hold K .mk)) .mk)):=rfl
theorem ZNT {v:Operand}{K:AV->Prop}{k:Box K}:ZCj P B (.store ty x v) fr σ (hold K k)=(aef P B (.store ty x v) (ev fr) σ (hold (fun r σ'=>chk (σ'=σ) (hold (K r) .mk)) .mk)):=rfl
theorem ZJO {K:ASt->Prop}{k:Box K}:aop P B N ⟨d,.nilCheck x,t,p,es,g⟩ st (hold K k)=(aef P B (.nilCheck x) (ev st.fr) st.σ (hold (fun r σ'=>ZAH N d r st.fr σ' (hold K .mk)) .mk)):=rfl
theorem ZI9 {K:AV->Prop}{k:Box K}:ZCj P B (.nilCheck x) fr σ (hold K k)=(aef P B (.nilCheck x) (ev fr) σ (hold (fun r σ'=>chk (σ'=σ) (hold (K r) .mk)) .mk)):=rfl
variable {op:BinOp}{y:Operand}{ty2:TypeId}
theorem ZNt {K:ASt->Prop}{k:Box K}:aop P B N ⟨d,.binOp op ty x y ty2,t,p,es,g⟩ st (hold K k)=(aef P B (.binOp op ty x y ty2) (ev st.fr) st.σ (hold (fun r σ'=>ZAH N d r st.fr σ' (hold K .mk)) .mk)):=rfl
theorem ZNY {K:AV->Prop}{k:Box K}:ZCj P B (.binOp op ty x y ty2) fr σ (hold K k)=(aef P B (.binOp op ty x y ty2) (ev fr) σ (hold (fun r σ'=>chk (σ'=σ) (hold (K r) .mk)) .mk)):=rfl
theorem ZPd {op:UnOp}{K:ASt->Prop}{k:Box K}:aop P B N ⟨d,.unOp op ty x,t,p,es,g⟩ st (hold K k)=(aef P B (.unOp op ty x) (ev st.fr) st.σ (hold (fun r σ'=>ZAH N d r st.fr σ' (hold K .mk)) .mk)):=rfl
theorem ZPF {op:UnOp}{K:AV->Prop}{k:Box K}:ZCj P B (.unOp op ty x) fr σ (hold K k)=(aef P B (.unOp op ty x) (ev fr) σ (hold (fun r σ'=>chk (σ'=σ) (hold (K r) .mk)) .mk)):=rfl
theorem ZKm {K:ASt->Prop}{k:Box K}:aop P B N ⟨d,.convert ty ty2 x,t,p,es,g⟩ st (hold K k)=(aef P B (.convert ty ty2 x) (ev st.fr) st.σ (hold (fun r σ'=>ZAH N d r st.fr σ' (hold K .mk)) .mk)):=rfl
theorem ZKJ {K:AV->Prop}{k:Box K}:ZCj P B (.convert ty ty2 x) fr σ (hold K k)=(aef P B (.convert ty ty2 x) (ev fr) σ (hold (fun r σ'=>chk (σ'=σ) (hold (K r) .mk)) .mk)):=rfl
variable {first captured:Array Operand}
theorem ZJP {fn:Fn}{K:ASt->Prop}{k:Box K}:aop P B N ⟨d,.makeFunc fn first captured,t,p,es,g⟩ st (hold K k)=(aef P B (.makeFunc fn first captured) (ev st.fr) st.σ (hold (fun r σ'=>ZAH N d r st.fr σ' (hold K .mk)) .mk)):=rfl
theorem ZJA {fn:Fn}{K:AV->Prop}{k:Box K}:ZCj P B (.makeFunc fn first captured) fr σ (hold K k)=(aef P B (.makeFunc fn first captured) (ev fr) σ (hold (fun r σ'=>chk (σ'=σ) (hold (K r) .mk)) .mk)):=rfl
variable {cap:Operand}
theorem ZHS {len:Operand}{K:ASt->Prop}{k:Box K}:aop P B N ⟨d,.makeSlice ty len cap,t,p,es,g⟩ st (hold K k)=(aef P B (.makeSlice ty len cap) (ev st.fr) st.σ (hold (fun r σ'=>ZAH N d r st.fr σ' (hold K .mk)) .mk)):=rfl
theorem ZHG {len:Operand}{K:AV->Prop}{k:Box K}:ZCj P B (.makeSlice ty len cap) fr σ (hold K k)=(aef P B (.makeSlice ty len cap) (ev fr) σ (hold (fun r σ'=>chk (σ'=σ) (hold (K r) .mk)) .mk)):=rfl
variable {low high mx:Option Operand}
theorem ZNp {K:ASt->Prop}{k:Box K}:aop P B N ⟨d,.slice ty x low high mx,t,p,es,g⟩ st (hold K k)=(aef P B (.slice ty x low high mx) (ev st.fr) st.σ (hold (fun r σ'=>ZAH N d r st.fr σ' (hold K .mk)) .mk)):=rfl
theorem ZNU {K:AV->Prop}{k:Box K}:ZCj P B (.slice ty x low high mx) fr σ (hold K k)=(aef P B (.slice ty x low high mx) (ev fr) σ (hold (fun r σ'=>chk (σ'=σ) (hold (K r) .mk)) .mk)):=rfl
variable {f:Nat}
theorem ZHU {K:ASt->Prop}{k:Box K}:aop P B N ⟨d,.fieldAddr ty x f,t,p,es,g⟩ st (hold K k)=(aef P B (.fieldAddr ty x f) (ev st.fr) st.σ (hold (fun r σ'=>ZAH N d r st.fr σ' (hold K .mk)) .mk)):=rfl
theorem ZHI {K:AV->Prop}{k:Box K}:ZCj P B (.fieldAddr ty x f) fr σ (hold K k)=(aef P B (.fieldAddr ty x f) (ev fr) σ (hold (fun r σ'=>chk (σ'=σ) (hold (K r) .mk)) .mk)):=rfl
theorem ZHT {i:Operand}{K:ASt->Prop}{k:Box K}:aop P B N ⟨d,.indexAddr ty x i,t,p,es,g⟩ st (hold K k)=(aef P B (.indexAddr ty x i) (ev st.fr) st.σ (hold (fun r σ'=>ZAH N d r st.fr σ' (hold K .mk)) .mk)):=rfl
theorem ZHH {i:Operand}{K:AV->Prop}{k:Box K}:ZCj P B (.indexAddr ty x i) fr σ (hold K k)=(aef P B (.indexAddr ty x i) (ev fr) σ (hold (fun r σ'=>chk (σ'=σ) (hold (K r) .mk)) .mk)):=rfl
theorem ZNq {i:Operand}{K:ASt->Prop}{k:Box K}:aop P B N ⟨d,.index ty x i,t,p,es,g⟩ st (hold K k)=(aef P B (.index ty x i) (ev st.fr) st.σ (hold (fun r σ'=>ZAH N d r st.fr σ' (hold K .mk)) .mk)):=rfl
theorem ZNr {K:ASt->Prop}{k:Box K}:aop P B N ⟨d,.field ty x i,t,p,es,g⟩ st (hold K k)=(aef P B (.field ty x i) (ev st.fr) st.σ (hold (fun r σ'=>ZAH N d r st.fr σ' (hold K .mk)) .mk)):=rfl
theorem ZNV {i:Operand}{K:AV->Prop}{k:Box K}:ZCj P B (.index ty x i) fr σ (hold K k)=(aef P B (.index ty x i) (ev fr) σ (hold (fun r σ'=>chk (σ'=σ) (hold (K r) .mk)) .mk)):=rfl
theorem ZNW {K:AV->Prop}{k:Box K}:ZCj P B (.field ty x i) fr σ (hold K k)=(aef P B (.field ty x i) (ev fr) σ (hold (fun r σ'=>chk (σ'=σ) (hold (K r) .mk)) .mk)):=rfl
theorem ZKl {K:ASt->Prop}{k:Box K}:aop P B N ⟨d,.extract x i,t,p,es,g⟩ st (hold K k)=(aef P B (.extract x i) (ev st.fr) st.σ (hold (fun r σ'=>ZAH N d r st.fr σ' (hold K .mk)) .mk)):=rfl
theorem ZKI {K:AV->Prop}{k:Box K}:ZCj P B (.extract x i) fr σ (hold K k)=(aef P B (.extract x i) (ev fr) σ (hold (fun r σ'=>chk (σ'=σ) (hold (K r) .mk)) .mk)):=rfl
variable {args:Array Operand}{ts:Array TypeId}
theorem ZKn {bi:Builtin}{K:ASt->Prop}{k:Box K}:aop P B N ⟨d,.call {callee:=.builtin bi,args:=args,argTypes:=ts},t,p,es,g⟩ st (hold K k)=(aef P B (.call {callee:=.builtin bi,args:=args,argTypes:=ts}) (ev st.fr) st.σ (hold (fun r σ'=>ZAH N d r st.fr σ' (hold K .mk)) .mk)):=rfl
theorem ZKK {bi:Builtin}{K:AV->Prop}{k:Box K}:ZCj P B (.call {callee:=.builtin bi,args:=args,argTypes:=ts}) fr σ (hold K k)=(aef P B (.call {callee:=.builtin bi,args:=args,argTypes:=ts}) (ev fr) σ (hold (fun r σ'=>chk (σ'=σ) (hold (K r) .mk)) .mk)):=rfl
theorem ZPh {f:Operand}{K:ASt->Prop}{k:Box K}:aop P B N ⟨d,.call {callee:=.value f,args:=args,argTypes:=ts},t,p,es,g⟩ st (hold K k)=(ZE7 P B (ev st.fr f) (args.toList.map (ev st.fr)) st.σ (hold (fun r σ'=>ZAH N d r st.fr σ' (hold K .mk)) .mk)):=rfl
theorem ZPJ {f:Operand}{K:AV->Prop}{k:Box K}:ZCj P B (.call {callee:=.value f,args:=args,argTypes:=ts}) fr σ (hold K k)=(PCall P B (ev fr f) (args.toList.map (ev fr)) (hold K .mk)):=rfl
theorem ZN7 {f:AV}{args:List AV}{K:AV -> ZE -> Prop}{k:Box K} : ZE7 P B f args σ (hold K k) = (match f with
    | .fn (.func i) first cap=>ACall P B i (first++args++cap) σ (hold K .mk)
    |_=>False):=by
  cases f<;>try rfl
theorem ZN6 {f : AV} {args : List AV}{K : AV -> Prop} {k : Box K} : PCall P B f args (hold K k) = (match f with
    | .fn (.func i) first cap=>ZE8 P B i (first++args++cap) (hold K .mk)
    |_=>False):=by
  cases f<;>try rfl
theorem ZJV {r:AV}{K:ASt->Prop}{k:Box K}:ZAH N none r fr σ (hold K k)=(K ⟨fr,σ⟩):=rfl
theorem ZJU {d:Nat}{r:AV}{K:ASt->Prop}{k:Box K}(h:d<N):ZAH N (some d) r fr σ (hold K k)=K ⟨(d,r)::fr,σ⟩:=by simp[ZAH,hold,h]
theorem ZN9 {K:Frm->Prop}{k:Box K}:aP P B N ops [] fr σ (hold K k)=(K fr):=rfl
theorem ZMF {o:Oper}{K:Frm->Prop}{k:Box K}:aP P B N (hold ops bo) (o::rest) fr σ (hold K k)=(ZAa (hold ops .mk) fr o.guard (hold (ZCj P B o.op fr σ (hold (fun r=>ZCl N o.dst (hold (aP P B N (hold ops .mk) rest (Zt o.dst r fr) σ (hold K .mk)) .mk)) .mk)) .mk) (hold (ZCl N o.dst (hold (aP P B N (hold ops .mk) rest (Zt o.dst (.lit undef) fr) σ (hold K .mk)) .mk)) .mk)):=by rw[aP];rfl
theorem ZJY {K:Prop}{k:Box K}:ZCl N none (hold K k)=(K):=by simp[ZCl,dOk,hold]
theorem ZJX {d:Nat}{K:Prop}{k:Box K}(h:d<N):ZCl N (some d) (hold K k)=K:=by simp[ZCl,dOk,hold,h]
theorem ZGT {α:Type}{l:List α}:(zA l).toList=(l):=rfl
variable {ρ:Operand->AV}{k:Box K}
theorem ZQM :aef P B (.move x) ρ σ (hold K k)=(K (ρ x) σ):=rfl
theorem ZMe :aef P B (.assign x) ρ σ (hold K k)=(K (ρ x) σ):=rfl
theorem ZQL {b:Operand}{ρ:Operand -> AV}{K:AV -> ZE -> Prop}{k:Box K} : aef P B (.pick c a b) ρ σ (hold K k) = (match ρ c with
    | .lit (.bool v)=>abr (v=true) (hold (K (ρ a) σ) .mk) (hold (K (ρ b) σ) .mk)
    |_=>False):=by
  simp only[aef,hold]
  generalize ρ c=v
  cases v<;>try rfl
  next v=>cases v<;>first|(rename_i v;cases v<;>simp[abr];done)|rfl
theorem ZOg {ρ:Operand -> AV}{K:AV -> ZE -> Prop}{k:Box K} : aef P B (.alloc t) ρ σ (hold K k) = (match Ze P t with
    |some i=>chk (i.zero≠[]) (hold (K (.ptr σ.length 0) (σ++[ZBa t i.zero])) .mk)
    |none=>False):=rfl
variable {r:List Value}
theorem ZQa {k:IntKind}{n:Int}:ZBa t (.int k n::r)=.cells ((.int k n::r).map .lit):=rfl
theorem ZOq {b:Bool}:ZBa t (.bool b::r)=.cells ((.bool b::r).map .lit):=rfl
theorem ZLW {s:ByteArray}:ZBa t (.string s::r)=.cells ((.string s::r).map .lit):=rfl
variable {n:Nat}
theorem ZMs {a:Option Addr}{c:Nat}:ZBa t (.slice a n c::r)=.cells ((.slice a n c::r).map .lit):=rfl
theorem ZRe :ZBa t (.nilFunc::r)=.cells ((.nilFunc::r).map .lit):=rfl
theorem ZQZ {p:Option Addr}:ZBa t [.pointer p]=.cells [.lit (.pointer p)]:=by cases p<;>rfl
theorem ZQb :ZBa t [.pointer none,.slice none 0 0]=.tcells (some t) [.junk,.lit (.slice none 0 0)]:=rfl
theorem ZRa :aef P B (.box t x) ρ σ (hold K k)=(zF σ (ρ x) (hold (fun cs=>K (.ptr σ.length 0) (σ++[.cells cs])) .mk)):=rfl
theorem ZOe :aef P B (.build t parts) ρ σ (hold K k)=(ZBy P t σ (parts.toList.map fun p=>(p.1,ρ p.2)) (hold K .mk)):=rfl
theorem ZGi :aef P B (.buildSlice t len parts) ρ σ (hold K k)=(ZAD P B t σ len (parts.toList.map fun p=>(p.1,ρ p.2)) (hold K .mk)):=rfl
theorem ZQN :aef P B (.load t x) ρ σ (hold K k)=(ZC6 P t σ (ρ x) (hold (fun r=>K r σ) .mk)):=rfl
theorem ZOa :aef P B (.store t a x) ρ σ (hold K k)=(ZEF P t σ (ρ a) (ρ x) (hold (fun σ'=>K (.lit undef) σ') .mk)):=rfl
theorem ZJi :aef P B (.nilCheck x) ρ σ (hold K k)=(chk (ZB5 σ (ρ x)) (hold (K (ρ x) σ) .mk)):=rfl
theorem ZOf {yt:TypeId}:aef P B (.binOp op t x y yt) ρ σ (hold K k)=(ZOp P op t (ρ x) (ρ y) (hold (fun r=>K r σ) .mk)):=rfl
theorem ZQK {op:UnOp}:aef P B (.unOp op t x) ρ σ (hold K k)=(aUn op (ρ x) (hold (fun r=>K r σ) .mk)):=rfl
theorem ZLB {s d:TypeId}:aef P B (.convert s d x) ρ σ (hold K k)=(ZES P s d σ (ρ x) (hold (fun r=>K r σ) .mk)):=rfl
theorem ZJj {fn:Fn}{cap:Array Operand}:aef P B (.makeFunc fn first cap) ρ σ (hold K k)=(K (.fn fn (first.toList.map ρ) (cap.toList.map ρ)) σ):=rfl
theorem ZHw {l:Operand}:aef P B (.makeSlice t l c) ρ σ (hold K k)=(ZAS P B t σ (ρ l) (ρ c) (hold K .mk)):=rfl
theorem ZOb {lo hi:Option Operand}:aef P B (.slice t x lo hi mx) ρ σ (hold K k)=(ZBw P t σ (ρ x) (lo.map ρ) (hi.map ρ) (mx.map ρ) (hold K .mk)):=rfl
theorem ZHy :aef P B (.fieldAddr t x f) ρ σ (hold K k)=(ZAF P t σ (ρ x) f (hold (fun r=>K r σ) .mk)):=rfl
theorem ZHx {i:Operand}:aef P B (.indexAddr t x i) ρ σ (hold K k)=(Zm P t σ (ρ x) (ρ i) (hold (fun r=>K r σ) .mk)):=rfl
theorem ZOc {i:Operand}:aef P B (.index t x i) ρ σ (hold K k)=(ZDF P t (ρ x) (ρ i) (hold (fun r=>K r σ) .mk)):=rfl
theorem ZOd :aef P B (.field t x i) ρ σ (hold K k)=(ZEJ P t (ρ x) i (hold (fun r=>K r σ) .mk)):=rfl
theorem ZLA {ρ:Operand -> AV}{K:AV -> ZE -> Prop}{k:Box K} : aef P B (.extract x i) ρ σ (hold K k) = (match ρ x with
    | .tup vs=>chk (i<vs.length) (hold (K (vs.getD i .junk) σ) .mk)
    |_=>False):=rfl
theorem ZRZ {y:Operand}{t2:TypeId}:aef P B (.call {callee:=.builtin .len,args:=zA [x],argTypes:=zA [t]}) ρ σ (hold K k)=(ZMq P t σ (ρ x) (hold (fun r=>K r σ) .mk)):=rfl
variable {t2:TypeId}
theorem ZMf :aef P B (.call {callee:=.builtin .append,args:=zA [x,y],argTypes:=zA [t,t2]}) ρ σ (hold K k)=(ZCC P B t t2 σ (ρ x) (ρ y) (hold K .mk)):=rfl
theorem ZRX {ρ:Operand -> AV}{K:AV -> ZE -> Prop}{k:Box K} : aef P B (.call { callee := .builtin .min, args := zA [x, y], argTypes := zA [t, t2] }) ρ σ (hold K k) = (match ρ x, ρ y with
    | .lit (.int k a),.lit (.int _ b)=>K (.lit (.int k (if b<a then b else a))) σ
    |_,_=>False):=by
  simp only[aef,hold,zB,zC]
  unfold ZAy
  generalize ρ x=v;generalize ρ y=u
  cases v<;>try rfl
  next v => cases v <;> try rfl
            cases u<;>try rfl
            next u=>cases u<;>rfl
theorem ZRY {ρ:Operand -> AV}{K:AV -> ZE -> Prop}{k:Box K} : aef P B (.call { callee := .builtin .max, args := zA [x, y], argTypes := zA [t, t2] }) ρ σ (hold K k) = (match ρ x, ρ y with
    | .lit (.int k a),.lit (.int _ b)=>K (.lit (.int k (if b>a then b else a))) σ
    |_,_=>False):=by
  simp only[aef,hold,zB,zC]
  unfold ZAy
  generalize ρ x=v;generalize ρ y=u
  cases v<;>try rfl
  next v => cases v <;> try rfl
            cases u<;>try rfl
            next u=>cases u<;>rfl
theorem ZMY {x:AV}{K:List AV->Prop}{k:Box K}:zF σ x (hold K k)=(match x with
  | .agg cs=>K cs
  | .lit v=>chk (ZBU v) (hold (K [.lit v]) .mk)
  | .arr es=>K [.arr es]
  | .rptr e o=>K [.rptr e o]
  | .fn f a b=>K [.fn f a b]
  | .own l n=>chk (ok1 σ (.own l n)) (hold (K [.own l n]) .mk)
  | .ptr l n=>chk (ok1 σ (.ptr l n)) (hold (K [.ptr l n]) .mk)
  | .eptr l n i o=>chk (ok1 σ (.eptr l n i o)) (hold (K [.eptr l n i o]) .mk)
  | .junk=>False
  | .pre _ _ _=>False
  | .tup _=>False):=by cases x<;>simp[zF,ok1,hold,chk]
theorem ZRU {e:List AV}{off:Nat}{K:List AV->Prop}{k:Box K}:rdE e off n (hold K k)=(if off=0/\n=e.length then K e else chk (off+n<=e.length) (hold (K ((e.drop off).take n)) .mk)):=rfl
theorem ZRT {p:AV}{K:List AV->Prop}{k:Box K}:rdN σ p n (hold K k)=(match p with
  | .rptr e off=>rdE e off n (hold K .mk)
  | .ptr l off=>match σ[l]? with
    |some (.cells cs)=>rdE cs off n (hold K .mk)
    |_=>False
  | .eptr l k i off=>match σ[l]? with
    |some (.elems _ es)=>chk (es.length=k) (hold (chk (i<es.length) (hold (rdE (es.getD i []) off n (hold K .mk)) .mk)) .mk)
    |_=>False
  |_=>False):=rfl
theorem ZRV {p:AV}{K:AV->Prop}{k:Box K}:rd1 σ p (hold K k)=(match p with
  | .rptr e off=>chk (off<e.length) (hold (K (e.getD off .junk)) .mk)
  | .ptr l off=>match σ[l]? with
    |some (.cells cs)=>chk (off<cs.length) (hold (K (cs.getD off .junk)) .mk)
    |_=>False
  | .eptr l k i off=>match σ[l]? with
    |some (.elems _ es)=>chk (es.length=k) (hold (chk (i<es.length) (hold (chk (off<(es.getD i []).length) (hold (K ((es.getD i []).getD off .junk)) .mk)) .mk)) .mk)
    |_=>False
  |_=>False):=rfl
theorem ZOU {p:AV}{K:AV->Prop}{k:Box K}:ZC6 P t σ p (hold K k)=(match Ze P t with
  |some i=>if i.sh.isAgg then rdN σ p i.size (hold (fun cs=>K (.agg cs)) .mk)else rd1 σ p (hold K .mk)
  |none=>False):=rfl
variable {cs:List AV}
theorem ZRS {e:List AV}{off:Nat}{K:List AV->Prop}{k:Box K}:wrE e off cs (hold K k)=(if off=0/\cs.length=e.length then K cs
  else chk (off+cs.length<=e.length) (hold (K (e.take off++cs++e.drop (off+cs.length))) .mk)):=rfl
theorem ZRR {p:AV}{K:ZE->Prop}{k:Box K}:wrN σ p cs (hold K k)=(match p with
  | .ptr l off=>match σ[l]? with
    |some (.cells old)=>wrE old off cs (hold (fun new=>K (σ.set l (.cells new))) .mk)
    |_=>False
  | .eptr l k i off=>match σ[l]? with
    |some (.elems sz es)=>chk (es.length=k) (hold (chk (i<es.length) (hold (wrE (es.getD i []) off cs (hold (fun new=>K (σ.set l (.elems sz (es.set i (new.map (nzs σ)))))) .mk)) .mk)) .mk)
    |_=>False
  |_=>False):=rfl
theorem ZMZ {p v:AV}{K:ZE->Prop}{k:Box K}:ZEF P t σ p v (hold K k)=(match Ze P t with
  |some i=>zF σ v (hold (fun cs=>chk (cs.length=i.size) (hold (chk (Zl σ cs) (hold (wrN σ p cs (hold K .mk)) .mk)) .mk)) .mk)
  |none=>False):=rfl
theorem ZGg {p:AV}{K:AV->Prop}{k:Box K}:ZAF P t σ p f (hold K k)=(match Ze P t with
  |some ⟨.struct offs,_,_⟩=>match offs[f]? with
    |some (o,s+1)=>chk (ZB5 σ p) (hold (K (p.adv o)) .mk)
    |_=>False
  |_=>False):=rfl
theorem ZGe {x i:AV}{K:AV->Prop}{k:Box K}:Zm P t σ x i (hold K k)=(match i,Ze P t with
  | .lit (.int _ n),some ⟨.slice sz _ _,_,_⟩=>match x with
    | .arr es=>chk (0<=n) (hold (chk (n.toNat<es.length) (hold (chk ((es.getD n.toNat []).length=sz) (hold (K (.rptr (es.getD n.toNat []) 0)) .mk)) .mk)) .mk)
    | .own l k=>match σ[l]? with
      |some (.elems sz' es)=>chk (es.length=k) (hold (chk (sz'=sz) (hold (chk (0<=n) (hold (chk (n.toNat<k) (hold (K (.eptr l k n.toNat 0)) .mk)) .mk)) .mk)) .mk)
      |_=>False
    |_=>False
  | .lit (.int _ n),some ⟨.array len (sz+1),_,_⟩=>chk (0<=n) (hold (chk (n.toNat<len) (hold (chk (ZB5 σ x) (hold (K (x.adv (n.toNat*(sz+1)))) .mk)) .mk)) .mk)
  |_,_=>False):=rfl
theorem ZMc {x:AV}{K:AV->Prop}{k:Box K}:ZEJ P t x f (hold K k)=(match x,P.underlying t with
  | .agg cs,some (.struct fs)=>match fs[f]? with
    |some d=>match Ze P d.type with
      |some j=>chk (j.sh.isAgg=false) (hold (chk (d.offset<cs.length) (hold (K (cs.getD d.offset .junk)) .mk)) .mk)
      |none=>False
    |none=>False
  |_,_=>False):=rfl
theorem ZMb {x i:AV}{K:AV->Prop}{k:Box K}:ZDF P t x i (hold K k)=(match x,i with
  | .lit (.string s),.lit (.int _ n)=>chk (P.underlying t=some .string) (hold (chk (0<=n) (hold (chk (n.toNat<s.size) (hold (K (.lit (.int .u8 (byteAt s n.toNat)))) .mk)) .mk)) .mk)
  | .agg cs,.lit (.int _ n)=>match P.underlying t with
    |some (.array len e)=>match Ze P e with
      |some j=>chk (j.sh.isAgg=false) (hold (chk (j.size=1) (hold (chk (len=cs.length) (hold (chk (0<=n) (hold (chk (n.toNat<len) (hold (K (cs.getD n.toNat .junk)) .mk)) .mk)) .mk)) .mk)) .mk)
      |none=>False
    |_=>False
  |_,_=>False):=rfl
theorem ZQI {x:AV}{K:AV->Prop}{k:Box K}:ZMq P t σ x (hold K k)=(match P.underlying t with
  |some (.slice _)=>match x with
    | .arr es=>K (.lit (.int .i64 es.length))
    | .lit (.slice none 0 0)=>K (.lit (.int .i64 0))
    | .own l k=>K (.lit (.int .i64 k))
    |_=>False
  |some .string=>match x with
    | .lit (.string s)=>K (.lit (.int .i64 s.size))
    |_=>False
  |some (.array n _)=>K (.lit (.int .i64 n))
  |_=>False):=rfl
theorem ZMX {x:AV}{K:List (List AV)->Prop}{k:Box K}:ZDE σ x (hold K k)=(match x with
  | .arr es=>K es
  | .lit (.slice none 0 0)=>K []
  | .lit (.slice (some _) 0 _)=>K []
  | .own l k=>match σ[l]? with
    |some (.elems _ es)=>chk (es.length=k) (hold (K es) .mk)
    |_=>False
  |_=>False):=rfl
theorem ZK8 {s x:AV}:ZCC P B t t2 σ s x (hold K k)=(match Ze P t,P.underlying t2 with
  |some ⟨.slice sz bytes zs,_,_⟩,some (.slice _)=>
    chk (zs.length=sz) (hold (chk (sz≠0) (hold (chk (bytes≠0) (hold (ZDE σ x (hold (fun new=>chk (ZFS sz new) (hold (chk (ZBN σ new) (hold (
      match s with
      | .lit (.slice none 0 0) => chk (new.length <= bd B) (hold (chk ((2 * new.length + 1024) * bytes <= 281474976710656) (hold (
          K (.own σ.length new.length) (σ++[.elems sz new])) .mk)) .mk)
      | .own l n=>match σ[l]? with
        | some (.elems sz' es) => chk (es.length = n) (hold (chk (sz' = sz) (hold (chk (n + new.length <= bd B) (hold (chk ((2 * (n + new.length) + 1024) * bytes <= 281474976710656) (hold (
            K (.own l (n+new.length)) (σ.set l (.elems sz (es++new)))) .mk)) .mk)) .mk)) .mk)
        |_=>False
      |_=>False) .mk)) .mk)) .mk)) .mk)) .mk)) .mk)
  |_,_=>False):=rfl
theorem ZQJ {x y:AV}{K:AV->Prop}{k:Box K}:ZOp P op t x y (hold K k)=(match x,y with
  | .lit (.int k a),.lit (.int k' b)=>chk (k=k') (hold (match op with
    | .add=>K (.lit (.int k (k.wrap (a+b))))
    | .sub=>K (.lit (.int k (k.wrap (a-b))))
    | .mul=>K (.lit (.int k (k.wrap (a*b))))
    | .quo=>chk (b≠0) (hold (K (.lit (.int k (k.wrap (a.tdiv b))))) .mk)
    | .rem=>chk (b≠0) (hold (K (.lit (.int k (a.tmod b)))) .mk)
    | .eql=>K (.lit (.bool (a==b)))
    | .neq=>K (.lit (.bool (a !=b)))
    | .lss=>K (.lit (.bool (a<b)))
    | .leq=>K (.lit (.bool (a<=b)))
    | .gtr=>K (.lit (.bool (a>b)))
    | .geq=>K (.lit (.bool (a≥b)))
    | .xor=>K (.lit (.int k (ZRg k a b)))
    |_=>False) .mk)
  | .lit (.string a),.lit (.string b)=>match op with
    | .add=>chk ((a.size+b.size:Nat)<=9223372036854775807) (hold (K (.lit (.string (a++b)))) .mk)
    | .eql=>K (.lit (.bool (a.toList==b.toList)))
    | .neq=>K (.lit (.bool (!(a.toList==b.toList))))
    |_=>False
  | .lit (.bool a),.lit (.bool b)=>chk (P.underlying t=some .bool) (hold (match op with
    | .eql=>K (.lit (.bool (a==b)))
    | .neq=>K (.lit (.bool (!(a==b))))
    |_=>False) .mk)
  | .agg xs,.agg ys=>match ZA7 xs,ZA7 ys with
    |some p,some q=>chk (ZBt P t=true) (hold (match op with
      | .eql=>K (.lit (.bool (dec (eq2 p q))))
      | .neq=>K (.lit (.bool (!dec (eq2 p q))))
      |_=>False) .mk)
    |_,_=>match ZBQ xs,ZBQ ys with
      |some p,some q=>chk (ZCE P t=true) (hold (match op with
        | .eql=>K (.lit (.bool (dec (eq3 p q))))
        | .neq=>K (.lit (.bool (!dec (eq3 p q))))
        |_=>False) .mk)
      |_,_=>match ZCN xs,ZCN ys with
        |some p,some q=>chk (ZEd P t=true) (hold (match op with
          | .eql=>K (.lit (.bool (dec (eq4 p q))))
          | .neq=>K (.lit (.bool (!dec (eq4 p q))))
          |_=>False) .mk)
        |_,_=>False
  | .arr es,.lit (.slice none 0 0)=>chk (ZDB P t=true) (hold (chk (es≠[]) (hold (match op with
    | .eql=>K (.lit (.bool false))
    | .neq=>K (.lit (.bool true))
    |_=>False) .mk)) .mk)
  | .lit (.slice a n c),.lit (.slice none 0 0)=>chk (ZDB P t=true) (hold (match op with
    | .eql=>K (.lit (.bool a.isNone))
    | .neq=>K (.lit (.bool (!a.isNone)))
    |_=>False) .mk)
  |_,_=>False):=rfl
theorem ZRW {op:UnOp}{x:AV}{K:AV->Prop}{k:Box K}:aUn op x (hold K k)=(match op,x with
  | .not,.lit (.bool b)=>K (.lit (.bool (!b)))
  | .neg,.lit (.int k n)=>K (.lit (.int k (k.wrap (0-n))))
  |_,_=>False):=rfl
theorem ZOV {s d:TypeId}{x:AV}{K:AV->Prop}{k:Box K}:ZES P s d σ x (hold K k)=(match P.underlying s,P.underlying d,x with
  |some (.int _),some (.int k),.lit (.int _ n)=>K (.lit (.int k (k.wrap n)))
  |some (.slice e),some .string,.arr es=>chk (ZBK P (some (.slice e))=true) (hold (match u8s es with
    |some ns=>K (.lit (.string (ZIN ns)))
    |none=>False) .mk)
  |some (.slice e),some .string,.own l n=>chk (ZBK P (some (.slice e))=true) (hold (match σ[l]? with
    |some (.elems _ es)=>chk (es.length=n) (hold (match u8s es with
      |some ns=>K (.lit (.string (ZIN ns)))
      |none=>False) .mk)
    |_=>False) .mk)
  |_,_,_=>False):=rfl
theorem ZK7 {K:List AV->ZE->Prop}{k:Box K}:frz σ [] (hold K k)=(K [] σ):=id rfl
theorem ZJd {x:AV}{r:List AV}{K:List AV->ZE->Prop}{k:Box K}:frz σ (x::r) (hold K k)=(match x with
  | .own l n=>(match σ[l]? with
    |some (.elems _ es)=>chk (es.length=n) (hold (chk (Zb es) (hold (frz (σ.set l .dead) r (hold (fun r' σ'=>K (.arr es::r') σ') .mk)) .mk)) .mk)
    |_=>False)
  | .lit v=>frz σ r (hold (fun r' σ'=>K (.lit v::r') σ') .mk)
  | .arr v=>frz σ r (hold (fun r' σ'=>K (.arr v::r') σ') .mk)
  |y=>frz σ r (hold (fun r' σ'=>K (y::r') σ') .mk)):=by
  simp only[hold]
  cases x with
  |own l n=>simp only[frz];generalize σ[l]? =ob;rcases ob with _|(_|⟨(_|_),cs⟩|⟨(_|_),sz,es⟩)<;>rfl
  |_=>rfl
theorem ZJc {K:List (List AV)->ZE->Prop}{k:Box K}:ZMP σ [] (hold K k)=(K [] σ):=id rfl
theorem ZHq {x:List AV}{r:List (List AV)}{K:List (List AV)->ZE->Prop}{k:Box K}:ZMP σ (x::r) (hold K k)=(frz σ x (hold (fun e' σ'=>ZMP σ' r (hold (fun r' σ''=>K (e'::r') σ'') .mk)) .mk)):=id rfl
theorem ZQG {x:AV}:ZJb σ x (hold K k)=(match x with
  | .agg cs=>frz σ cs (hold (fun cs' σ'=>K (.agg cs') σ') .mk)
  | .own l n=>(match σ[l]? with
    |some (.elems _ es)=>chk (es.length=n) (hold (chk (Zb es) (hold (K (.arr es) (σ.set l .dead)) .mk)) .mk)
    |_=>False)
  | .lit v=>K (.lit v) σ
  | .arr v=>K (.arr v) σ
  |y=>K y σ):=by cases x<;>rfl
theorem ZJf {K:List AV->ZE->Prop}{k:Box K}:ZND σ [] (hold K k)=(K [] σ):=rfl
theorem ZHs {x:AV}{r:List AV}{K:List AV->ZE->Prop}{k:Box K}:ZND σ (x::r) (hold K k)=(ZJb σ x (hold (fun x' σ'=>ZND σ' r (hold (fun r' σ''=>K (x'::r') σ'') .mk)) .mk)):=rfl
theorem ZQF {x:AV}:ZLZ σ x (hold K k)=(match x with
  | .tup xs=>ZND σ xs (hold (fun xs' σ'=>K (.tup xs') σ') .mk)
  | .lit v=>K (.lit v) σ
  | .arr v=>K (.arr v) σ
  |y=>ZJb σ y (hold K .mk)):=by cases x<;>rfl
theorem ZJh {K:List AV->Prop}{k:Box K}:ZBZ P σ fr [] (hold K k)=(K []):=rfl
theorem ZJg {t:Nat}{r:List ResultVar}{K:List AV->Prop}{k:Box K}:ZBZ P σ fr (.tmp t::r) (hold K k)=(ZBZ P σ fr r (hold (fun xs=>K (lk fr t::xs)) .mk)):=rfl
theorem ZHt {a:Nat}{r:List ResultVar}{K:List AV->Prop}{k:Box K}:ZBZ P σ fr (.cell a t::r) (hold K k)=(ZC6 P t σ (lk fr a) (hold (fun x=>ZBZ P σ fr r (hold (fun xs=>K (x::xs)) .mk)) .mk)):=rfl
theorem ZHu {place:Nat->Option (Nat×Nat)}{K:List AV->Prop}{k:Box K}:ZBc place σ cs [] (hold K k)=(K cs):=rfl
theorem ZGf {place:Nat -> Option (Nat × Nat)}{x:AV}{rest:List (Nat × AV)}{K:List AV -> Prop}{k:Box K} : ZBc place σ cs ((i, x) :: rest) (hold K k) = (match place i with
    |some (off,size)=>zF σ x (hold (fun new=>chk (new.length=size) (hold (wrE cs off new (hold (fun cs'=>ZBc place σ cs' rest (hold K .mk)) .mk)) .mk)) .mk)
    |none=>False):=rfl
variable {ps:List (Nat×AV)}
theorem ZMd :ZBy P t σ ps (hold K k)=(match Ze P t with
  |some ⟨.struct offs,_,z⟩=>chk ((∀p,p∈offs->p.2≠0)) (hold (chk (z≠[]) (hold (ZBc (fun i=>offs[i]?) σ (z.map .lit) ps (hold (fun cs=>bfrz σ cs (hold (fun cs' σ'=>K (.agg cs') σ') .mk)) .mk)) .mk)) .mk)
  |_=>False):=rfl
theorem ZQH {K:List AV->ZE->Prop}{k:Box K}:bfrz σ cs (hold K k)=(if σ.any isM=true then K cs σ else frz σ cs (hold K .mk)):=rfl
theorem ZOT {es:List (List AV)}{K:List (List AV)->ZE->Prop}{k:Box K}:bfrzs σ es (hold K k)=(if σ.any isK=true/\σ.any isP=true then K es σ else ZMP σ es (hold K .mk)):=rfl
theorem ZGQ {es:List (List AV)}:isK (.elems n es)=decide (n=0):=by cases n<;>rfl
theorem ZGR :isK (.cells cs)=false:=rfl
theorem ZIl :isK .dead=false:=rfl
variable {xs:List AV}{vs:List Value}
theorem ZIk :isK (.pack xs vs)=false:=rfl
theorem ZGO {es:List (List AV)}:isP (.elems n es)=false:=rfl
theorem ZGP :isP (.cells cs)=false:=rfl
theorem ZIj :isP .dead=false:=rfl
theorem ZIi :isP (.pack xs vs)=true:=rfl
theorem ZKx {es:List (List AV)}:isM (.elems n es)=decide (n=0):=by cases n<;>rfl
theorem ZKy :isM (.cells cs)=false:=rfl
theorem ZMD :isM .dead=false:=rfl
theorem ZMC :isM (.pack xs vs)=true:=rfl
theorem ZJS {es:List (List AV)}:ZPz (.elems n es)=false:=rfl
theorem ZJT :ZPz (.cells cs)=false:=rfl
theorem ZKw :ZPz .dead=false:=rfl
theorem ZKv :ZPz (.pack xs vs)=true:=rfl
theorem ZGh {sz:Nat}{K:List (List AV)->Prop}{k:Box K}:ZBx σ sz j [] (hold K k)=(K []):=rfl
theorem ZFX {sz:Nat}{x:AV}{rest:List (Nat×AV)}{K:List (List AV)->Prop}{k:Box K}:ZBx σ sz j ((i,x)::rest) (hold K k)=(chk (i=j) (hold (zF σ x (hold (fun e=>chk (e.length=sz) (hold (ZBx σ sz (j+1) rest (hold (fun es=>K (e.map (nzs σ)::es)) .mk)) .mk)) .mk)) .mk)):=rfl
theorem ZFY :ZAD P B t σ len ps (hold K k)=(match Ze P t with
  |some ⟨.slice sz _ z,_,_⟩=>chk (ps.length=len) (hold (chk (len*sz<=16777216) (hold (chk (len<=bd B) (hold (chk (z.length=sz) (hold (chk (sz≠0) (hold (ZBx σ sz 0 ps (hold (fun es=>bfrzs σ es (hold (fun es' σ'=>K (.own σ'.length len) (σ'++[.elems sz es'])) .mk)) .mk)) .mk)) .mk)) .mk)) .mk)) .mk)
  |_=>False):=rfl
theorem ZGd {l c:AV}:ZAS P B t σ l c (hold K k)=(match Ze P t,l,c with
  |some ⟨.slice sz bytes z,_,_⟩,.lit (.int _ n),.lit (.int _ n')=>chk (n=n') (hold (chk (0<=n) (hold (chk (n<=9223372036854775807) (hold (chk (bytes*n<=281474976710656) (hold (chk (n.toNat<=bd B) (hold (chk (z.length=sz) (hold (chk (sz≠0) (hold (K (.own σ.length n.toNat) (σ++[.elems sz (List.replicate n.toNat ((z.map .lit).map (nzs σ)))])) .mk)) .mk)) .mk)) .mk)) .mk)) .mk)) .mk)
  |_,_,_=>False):=rfl
theorem ZMW {x:Option AV}{d:Nat}{K:Nat->Prop}{k:Box K}:ZAn x d (hold K k)=(match x with
  |none=>K d
  |some (.lit (.int _ n))=>chk (0<=n) (hold (K n.toNat) .mk)
  |_=>False):=rfl
theorem ZMa {x:AV}{lo hi mx:Option AV}:ZBw P t σ x lo hi mx (hold K k)=(match x,mx with
  | .lit (.string s),none=>chk (P.underlying t=some .string) (hold (
    ZAn lo 0 (hold (fun l=>ZAn hi s.size (hold (fun h=>chk (l<=h) (hold (chk (h<=s.size) (hold (K (.lit (.string (s.extract l h))) σ) .mk)) .mk)) .mk)) .mk)) .mk)
  | .arr es,none=>match Ze P t with
    |some ⟨.slice sz _ _,_,_⟩=>chk (ZFS sz es) (hold (
      ZAn lo 0 (hold (fun l=>ZAn hi es.length (hold (fun h=>chk (l<=h) (hold (chk (h<=es.length) (hold (K (.arr ((es.drop l).take (h-l))) σ) .mk)) .mk)) .mk)) .mk)) .mk)
    |_=>False
  | .own l n,none=>match lo,Ze P t with
    |none,some ⟨.slice _ _ _,_,_⟩=>ZAn hi n (hold (fun h=>chk (h<=n) (hold (K (.pre l n h) σ) .mk)) .mk)
    |_,_=>False
  |_,_=>False):=rfl
theorem ZOS {x:AV}:ZB5 σ x=(match x with
  | .rptr _ _=>True
  | .ptr l _=>match σ[l]? with
    |some (.cells _)=>True
    |_=>False
  | .eptr l k _ _=>match σ[l]? with
    |some (.elems _ es)=>es.length=k/\es≠[]
    |_=>False
  |_=>False):=rfl
end
attribute [simp ↓] ZFl ZER ZMh ZLm ZQz ZPD ZFD ZI7 ZHE
  ZP1 ZME ZP4 ZRM ZP5 ZN8 ZP2 ZP3 ZRN ZLk ZQu ZO9 ZMj ZRc ZQW ZQ3 ZLv ZK2 ZJW ZHh ZHg ZPf ZPH ZL2 ZLo ZPe ZPG ZNu ZNZ ZQ6 ZQ0 ZNs ZNX ZGF ZF5 ZPg ZPI ZNo ZNT ZJO ZI9 ZNt ZNY ZPd ZPF ZKm ZKJ ZJP ZJA ZHS ZHG ZNp ZNU ZHU ZHI ZHT ZHH ZNq ZNV ZNr ZNW ZKl ZKI ZKn ZKK ZPh ZPJ ZN7 ZN6 ZJV ZJU ZN9 ZMF ZJY ZJX ZGT ZQM ZMe ZQL ZOg ZQa ZOq ZLW ZMs ZRe ZQZ ZQb ZRa ZOe ZGi ZQN ZOa ZJi ZOf ZQK ZLB ZJj ZHw ZOb ZHy ZHx ZOc ZOd ZLA ZRZ ZMf ZRX ZRY ZMY ZRU ZRT ZRV ZOU ZRS ZRR ZMZ ZGg ZGe ZMb ZMc ZQI ZMX ZK8 ZQJ ZRW ZOV ZK7 ZJd ZJc ZHq ZQG ZJf ZHs ZQF ZJh ZJg ZHt ZHu ZGf ZMd ZQH ZOT ZGQ ZGR ZIl ZIk ZGO ZGP ZIj ZIi ZGh ZFX ZFY ZGd ZMW ZMa ZOS
attribute [simp] ZIx ZG3 ZQd u8s ZBK
attribute [simp] ZGQ ZGR ZIl ZIk ZGO ZGP ZIj ZIi ZKx ZKy ZMD ZMC ZJS ZJT ZKw ZKv nzs
attribute [simp] nz AV.le AV.le.les ZMR ZDN Blk.le pack ZEe Blk.closed Zg ZMS AV.bnd AV.bnd.bnds ev ZBP lk AV.adv Sh.isAgg Zt
variable {n:Nat}{v:Value}
theorem ZQT :zD n (.lit v)↔True:=by simp[zD]
theorem ZOk :zD n .junk↔True:=by simp[zD]
variable {es:List (List AV)}
theorem ZQU :zD n (.arr es)↔True:=by simp[zD]
variable {e:List AV}{o:Nat}
theorem ZOj :zD n (.rptr e o)↔True:=by simp[zD]
variable {l i k:Nat}
theorem ZQR :zD n (.pre l i k)↔l<n:=by simp[zD]
theorem ZQS :zD n (.own l k)↔l<n:=by simp[zD]
theorem ZQQ :zD n (.ptr l k)↔l<n:=by simp[zD]
theorem ZOl :zD n (.eptr l k i o)↔l<n:=by simp[zD]
variable {cs:List AV}
theorem ZQV :zD n (.agg cs)↔zD.closeds n cs:=by simp[zD]
theorem ZQP :zD n (.tup cs)↔zD.closeds n cs:=by simp[zD]
variable {xs ys:List AV}
theorem ZRb {f:Fn}:zD n (.fn f xs ys)↔zD.closeds n xs/\zD.closeds n ys:=by simp[zD]
theorem ZOh :zD.closeds n []↔True:=by simp[zD.closeds]
variable {r:List AV}
theorem ZMg {x:AV}:zD.closeds n (x::r)↔x.closed n/\zD.closeds n r:=by simp[zD.closeds]
theorem ZPP :zE (.lit v)↔True:=by simp[zE]
theorem ZNd :zE .junk↔True:=by simp[zE]
theorem ZPQ :zE (.arr es)↔True:=by simp[zE]
theorem ZNc :zE (.rptr e o)↔True:=by simp[zE]
theorem ZPN :zE (.pre l i k)↔False:=by simp[zE]
theorem ZPO :zE (.own l k)↔False:=by simp[zE]
theorem ZPM :zE (.ptr l k)↔False:=by simp[zE]
theorem ZPR :zE (.agg cs)↔zE.pures cs:=by simp[zE]
theorem ZPL :zE (.tup cs)↔zE.pures cs:=by simp[zE]
theorem ZQ2 {f:Fn}:zE (.fn f xs ys)↔zE.pures xs/\zE.pures ys:=by simp[zE]
theorem ZNb :zE.pures []↔True:=by simp[zE.pures]
theorem ZLp {x:AV}:zE.pures (x::r)↔x.pure/\zE.pures r:=by simp[zE.pures]
theorem ZL0 {b:Bool}:ZBU (.bool b)↔True:=by simp[ZBU]
theorem ZNk {k:IntKind}{b:Int}:ZBU (.int k b)↔True:=by simp[ZBU]
theorem ZJK {b:ByteArray}:ZBU (.string b)↔True:=by simp[ZBU]
variable {a:Option Addr}
theorem ZKh {c:Nat}:ZBU (.slice a l c)↔True:=by simp[ZBU]
theorem ZHQ :ZBU (.pointer a)↔True:=by simp[ZBU]
theorem ZNj {a:Option Nat}:ZBU (.map a)↔True:=by simp[ZBU]
theorem ZHR :ZBU .nilFunc↔True:=by simp[ZBU]
variable {σ:ZE}
theorem ZPb :ok1 σ (.lit v)↔ZBU v:=by simp[ok1]
theorem ZPc :ok1 σ (.arr es)↔True:=by simp[ok1]
theorem ZNm :ok1 σ (.rptr e o)↔True:=by simp[ok1]
theorem ZQ4 {f:Fn}:ok1 σ (.fn f xs ys)↔True:=by simp[ok1]
theorem ZPa :ok1 σ (.own l n)=(match σ[l]? with|some (.elems _ es)=>es.length=n|_=>False):=rfl
theorem ZPZ :ok1 σ (.ptr l n)=(match σ[l]? with|some (.cells _)=>True|_=>False):=rfl
theorem ZNn :ok1 σ (.eptr l n i o)=(match σ[l]? with|some (.elems _ es)=>es.length=n/\es≠[]|_=>False):=rfl
theorem ZNl :Zl σ []↔True:=by simp[Zl]
theorem ZL1 {x:AV}:Zl σ (x::r)↔ok1 σ x/\Zl σ r:=by simp[Zl]
attribute [simp] ZQR ZPN ZQT ZOk ZQU ZOj ZQS ZQQ ZOl ZQV ZQP ZRb ZOh ZMg ZPP ZNd ZPQ ZNc ZPO ZPM ZPR ZPL ZQ2 ZNb ZLp ZL0 ZNk ZJK ZKh ZHQ ZNj ZHR ZPb ZPc ZNm ZQ4 ZPa ZPZ ZNn ZNl ZL1
end Go.Vl
