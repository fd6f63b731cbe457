/- Part. -/
import Derived.Test.YtmjpphcloedceaaVlStep
set_option linter.all false
open List renaming toArray->zA,map_cons->zB,map_nil->zC
namespace Go.Vl
open Go Go.RowKit
open AV renaming closed->zD,pure->zE,cellsK->zF
section
variable {P : Program} {B nb N : Nat}
variable {Q:Exit->ASt->Prop}{q:Box Q}{st:ASt}
theorem ZNM :awp P B nb N .skip st (hold Q q)=(Q .normal st):=rfl
variable {id:Nat}
theorem ZJp {l:List Oper}:awp P B nb N (.region id (zA l) false) st (hold Q q)=(ZHh P B N (hold (zA l) .mk) l st (hold (Q .normal) .mk)):=by simp only[awp,Bool.false_eq_true,if_false,hold]
variable {ops:Array Oper}
theorem ZNP :awp P B nb N (.region id ops true) st (hold Q q)=(ADraw P B nb N (hold ops .mk) st (hold (Q .normal) .mk)):=by simp only[awp,if_true,hold]
variable {b:Code}
theorem ZOi {a:Code}:awp P B nb N (.seq a b) st (hold Q q)=(awp P B nb N a st (hold (ZN4 P B nb N b Q) .mk)):=by simp only[hold];rw[awp];congr
variable {c:Operand}
theorem ZNQ {Q:Exit -> ASt -> Prop}{q:Box Q}{a:Code} : awp P B nb N (.cond c a b) st (hold Q q) = (match ev st.fr c with
    | .lit (.bool v)=>abr (v=true) (hold (awp P B nb N a st (hold Q .mk)) .mk) (hold (awp P B nb N b st (hold Q .mk)) .mk)
    |_=>False):=by
  simp only[awp,hold]
  generalize ev st.fr c=v
  cases v<;>try rfl
  next v=>cases v<;>first|exact ZGD.symm|rfl
theorem ZLY {c:Code}:awp P B nb N (.block id c) st (hold Q q)=(awp P B nb N c st (hold (ZGt id Q) .mk)):=by simp only[hold];rw[awp];congr
theorem ZNN {c:Code}:awp P B nb N (.loop c) st (hold Q q)=(ALoop P B nb N (hold c .mk) st (hold Q .mk)):=rfl
variable {i:Nat}
theorem ZNO :awp P B nb N (.exit i) st (hold Q q)=(Q (.exit i) st):=rfl
theorem ZOj :awp P B nb N .ret st (hold Q q)=(Q .ret st):=rfl
variable {bQ:Box Q}
theorem ZJO {c:Code}{bc:Box c}:ZEI P B nb N (hold c bc) (hold Q bQ) .normal st=Again P B nb N (hold c .mk) (hold Q .mk) st:=rfl
theorem ZOO {c:Code}{bc:Box c}:ZEI P B nb N (hold c bc) (hold Q bQ) .ret st=Leave B nb N (hold Q .mk) .ret st:=rfl
theorem ZMX {c:Code}{bc:Box c}:ZEI P B nb N (hold c bc) (hold Q bQ) (.exit i) st=Leave B nb N (hold Q .mk) (.exit i) st:=rfl
theorem ZJN :ZN4 P B nb N b Q .normal st=(awp P B nb N b st (hold Q .mk)):=rfl
theorem ZOJ :ZN4 P B nb N b Q .ret st=(Q .ret st):=rfl
theorem ZMS :ZN4 P B nb N b Q (.exit i) st=(Q (.exit i) st):=rfl
theorem ZKJ :ZGt i Q .normal st=(Q .normal st):=rfl
theorem ZO0 :ZGt i Q .ret st=(Q .ret st):=rfl
variable {j:Nat}
theorem ZNs :ZGt i Q (.exit j) st=(if j=i then Q .normal st else Q (.exit j) st):=rfl
variable {K:AV->ZB->Prop}
theorem ZOS {fn:Func}:ZAK P fn K .ret st=(ZBK P st.σ st.fr fn.results.toList (hold (fun xs=>ZIo st.σ (pack xs) (hold K .mk)) .mk)):=rfl
theorem ZJX {fn:Func}:ZAK P fn K .normal st=(ZBK P st.σ st.fr fn.results.toList (hold (fun xs=>ZIo st.σ (pack xs) (hold K .mk)) .mk)):=rfl
theorem ZIl {K:ASt->Prop}{k:Box K}:ZHh P B N ops [] st (hold K k)=(K st):=rfl
variable {bo:Box ops}{rest:List Oper}
theorem ZHQ {K:ASt->Prop}{k:Box K}{o:Oper}:ZHh P B N (hold ops bo) (o::rest) st (hold K k)=(ZAU (hold ops .mk) st.fr o.guard (hold (aop P B N o st (hold (fun st'=>ZHh P B N (hold ops .mk) rest st' (hold K .mk)) .mk)) .mk) (hold (ZAA N o.dst (.lit undef) st.fr st.σ (hold (fun st'=>ZHh P B N (hold ops .mk) rest st' (hold K .mk)) .mk)) .mk)):=rfl
variable {fr:Frm}
theorem ZFl {y n:Prop}{b:Box y}{b':Box n}:ZAU (hold ops bo) fr none (hold y b) (hold n b')=(y):=rfl
def ZHt (w:Bool)(v:AV)(y n:Prop):Prop:=match v with
  | .lit (.bool b)=>abr (b=w) (hold y .mk) (hold n .mk)
  | .lit _=>n
  |_=>False
variable {w:Bool}
theorem ZGw {b:Bool}{y n:Prop}{k:Box y}{k':Box n}:ZHt w (.lit (.bool b)) (hold y k) (hold n k')=abr (b=w) (hold y .mk) (hold n .mk):=rfl
theorem ZFH {y n:Prop}{k:Box y}{k':Box n}:ZHt w (.lit undef) (hold y k) (hold n k')=n:=rfl
theorem ZFk {y n:Prop}{b:Box y}{b':Box n} : ZAU (hold ops bo) fr (some (j, w)) (hold y b) (hold n b') = (match (ops[j]?).bind (·.dst) with
      |none=>False
      |some d=>ZHt w (lk fr d) (hold y .mk) (hold n .mk)):=by
  simp only[ZAU,hold]
  generalize(ops[j]?).bind (fun x=>x.dst)=od
  cases od with
  |none=>rfl
  |some d=>
    simp only[]
    generalize lk fr d=v
    cases v<;>try rfl
    next v=>cases v<;>first|(simp only[yb,ZHt,Option.some.injEq];exact ZGD.symm)|(simp[yb,ZHt,hold];done)|rfl
variable {x:Operand}{d:Option Nat}{t:TypeId}{p:String}{es:Array Edge}{g:Option (Nat×Bool)}
theorem ZMz {K:ASt->Prop}{k:Box K}:aop P B N ⟨d,.move x,t,p,es,g⟩ st (hold K k)=(aef P B (.move x) (ev st.fr) st.σ (hold (fun r σ'=>ZAA N d r st.fr σ' (hold K .mk)) .mk)):=rfl
variable {σ:ZB}
theorem ZMb {K:AV->Prop}{k:Box K}:ZCH P B (.move x) fr σ (hold K k)=(aef P B (.move x) (ev fr) σ (hold (fun r σ'=>chk (σ'=σ) (hold (K r) .mk)) .mk)):=rfl
theorem ZJe {K:ASt->Prop}{k:Box K}:aop P B N ⟨d,.assign x,t,p,es,g⟩ st (hold K k)=(aef P B (.assign x) (ev st.fr) st.σ (hold (fun r σ'=>ZAA N d r st.fr σ' (hold K .mk)) .mk)):=rfl
theorem ZJQ {K:AV->Prop}{k:Box K}:ZCH P B (.assign x) fr σ (hold K k)=(aef P B (.assign x) (ev fr) σ (hold (fun r σ'=>chk (σ'=σ) (hold (K r) .mk)) .mk)):=rfl
variable {a:Operand}
theorem ZMy {b:Operand}{K:ASt->Prop}{k:Box K}:aop P B N ⟨d,.pick c a b,t,p,es,g⟩ st (hold K k)=(aef P B (.pick c a b) (ev st.fr) st.σ (hold (fun r σ'=>ZAA N d r st.fr σ' (hold K .mk)) .mk)):=rfl
theorem ZMa {b:Operand}{K:AV->Prop}{k:Box K}:ZCH P B (.pick c a b) fr σ (hold K k)=(aef P B (.pick c a b) (ev fr) σ (hold (fun r σ'=>chk (σ'=σ) (hold (K r) .mk)) .mk)):=rfl
variable {e:TypeId}
theorem ZLM {K:ASt->Prop}{k:Box K}:aop P B N ⟨d,.alloc e,t,p,es,g⟩ st (hold K k)=(aef P B (.alloc e) (ev st.fr) st.σ (hold (fun r σ'=>ZAA N d r st.fr σ' (hold K .mk)) .mk)):=rfl
theorem ZK1 {K:AV->Prop}{k:Box K}:ZCH P B (.alloc e) fr σ (hold K k)=(aef P B (.alloc e) (ev fr) σ (hold (fun r σ'=>chk (σ'=σ) (hold (K r) .mk)) .mk)):=rfl
theorem ZOU {K:ASt->Prop}{k:Box K}:aop P B N ⟨d,.box e x,t,p,es,g⟩ st (hold K k)=(aef P B (.box e x) (ev st.fr) st.σ (hold (fun r σ'=>ZAA N d r st.fr σ' (hold K .mk)) .mk)):=rfl
theorem ZOP {K:AV->Prop}{k:Box K}:ZCH P B (.box e x) fr σ (hold K k)=(aef P B (.box e x) (ev fr) σ (hold (fun r σ'=>chk (σ'=σ) (hold (K r) .mk)) .mk)):=rfl
variable {ty:TypeId}{parts:Array (Nat×Operand)}
theorem ZLK {K:ASt->Prop}{k:Box K}:aop P B N ⟨d,.build ty parts,t,p,es,g⟩ st (hold K k)=(aef P B (.build ty parts) (ev st.fr) st.σ (hold (fun r σ'=>ZAA N d r st.fr σ' (hold K .mk)) .mk)):=rfl
theorem ZKz {K:AV->Prop}{k:Box K}:ZCH P B (.build ty parts) fr σ (hold K k)=(aef P B (.build ty parts) (ev fr) σ (hold (fun r σ'=>chk (σ'=σ) (hold (K r) .mk)) .mk)):=rfl
variable {len:Nat}
theorem ZEV {K:ASt->Prop}{k:Box K}:aop P B N ⟨d,.buildSlice ty len parts,t,p,es,g⟩ st (hold K k)=(aef P B (.buildSlice ty len parts) (ev st.fr) st.σ (hold (fun r σ'=>ZAA N d r st.fr σ' (hold K .mk)) .mk)):=rfl
theorem ZEO {K:AV->Prop}{k:Box K}:ZCH P B (.buildSlice ty len parts) fr σ (hold K k)=(aef P B (.buildSlice ty len parts) (ev fr) σ (hold (fun r σ'=>chk (σ'=σ) (hold (K r) .mk)) .mk)):=rfl
theorem ZM0 {K:ASt->Prop}{k:Box K}:aop P B N ⟨d,.load ty x,t,p,es,g⟩ st (hold K k)=(aef P B (.load ty x) (ev st.fr) st.σ (hold (fun r σ'=>ZAA N d r st.fr σ' (hold K .mk)) .mk)):=rfl
theorem ZMc {K:AV->Prop}{k:Box K}:ZCH P B (.load ty x) fr σ (hold K k)=(aef P B (.load ty x) (ev fr) σ (hold (fun r σ'=>chk (σ'=σ) (hold (K r) .mk)) .mk)):=rfl
theorem ZLG {v:Operand}{K:ASt->Prop}{k:Box K}:aop P B N ⟨d,.store ty x v,t,p,es,g⟩ st (hold K k)=(aef P B (.store ty x v) (ev st.fr) st.σ (hold (fun r σ'=>ZAA N d r st.fr σ' (hold K .mk)) .mk)):=rfl
theorem ZKv {v:Operand}{K:AV->Prop}{k:Box K}:ZCH P B (.store ty x v) fr σ (hold K k)=(aef P B (.store ty x v) (ev fr) σ (hold (fun r σ'=>chk (σ'=σ) (hold (K r) .mk)) .mk)):=rfl
theorem ZHI {K:ASt->Prop}{k:Box K}:aop P B N ⟨d,.nilCheck x,t,p,es,g⟩ st (hold K k)=(aef P B (.nilCheck x) (ev st.fr) st.σ (hold (fun r σ'=>ZAA N d r st.fr σ' (hold K .mk)) .mk)):=rfl
theorem ZG7 {K:AV->Prop}{k:Box K}:ZCH P B (.nilCheck x) fr σ (hold K k)=(aef P B (.nilCheck x) (ev fr) σ (hold (fun r σ'=>chk (σ'=σ) (hold (K r) .mk)) .mk)):=rfl
variable {op:BinOp}{y:Operand}{ty2:TypeId}
theorem ZLL {K:ASt->Prop}{k:Box K}:aop P B N ⟨d,.binOp op ty x y ty2,t,p,es,g⟩ st (hold K k)=(aef P B (.binOp op ty x y ty2) (ev st.fr) st.σ (hold (fun r σ'=>ZAA N d r st.fr σ' (hold K .mk)) .mk)):=rfl
theorem ZK0 {K:AV->Prop}{k:Box K}:ZCH P B (.binOp op ty x y ty2) fr σ (hold K k)=(aef P B (.binOp op ty x y ty2) (ev fr) σ (hold (fun r σ'=>chk (σ'=σ) (hold (K r) .mk)) .mk)):=rfl
theorem ZMx {op:UnOp}{K:ASt->Prop}{k:Box K}:aop P B N ⟨d,.unOp op ty x,t,p,es,g⟩ st (hold K k)=(aef P B (.unOp op ty x) (ev st.fr) st.σ (hold (fun r σ'=>ZAA N d r st.fr σ' (hold K .mk)) .mk)):=rfl
theorem ZMZ {op:UnOp}{K:AV->Prop}{k:Box K}:ZCH P B (.unOp op ty x) fr σ (hold K k)=(aef P B (.unOp op ty x) (ev fr) σ (hold (fun r σ'=>chk (σ'=σ) (hold (K r) .mk)) .mk)):=rfl
theorem ZIY {K:ASt->Prop}{k:Box K}:aop P B N ⟨d,.convert ty ty2 x,t,p,es,g⟩ st (hold K k)=(aef P B (.convert ty ty2 x) (ev st.fr) st.σ (hold (fun r σ'=>ZAA N d r st.fr σ' (hold K .mk)) .mk)):=rfl
theorem ZH8 {K:AV->Prop}{k:Box K}:ZCH P B (.convert ty ty2 x) fr σ (hold K k)=(aef P B (.convert ty ty2 x) (ev fr) σ (hold (fun r σ'=>chk (σ'=σ) (hold (K r) .mk)) .mk)):=rfl
variable {first captured:Array Operand}
theorem ZHJ {fn:Fn}{K:ASt->Prop}{k:Box K}:aop P B N ⟨d,.makeFunc fn first captured,t,p,es,g⟩ st (hold K k)=(aef P B (.makeFunc fn first captured) (ev st.fr) st.σ (hold (fun r σ'=>ZAA N d r st.fr σ' (hold K .mk)) .mk)):=rfl
theorem ZG8 {fn:Fn}{K:AV->Prop}{k:Box K}:ZCH P B (.makeFunc fn first captured) fr σ (hold K k)=(aef P B (.makeFunc fn first captured) (ev fr) σ (hold (fun r σ'=>chk (σ'=σ) (hold (K r) .mk)) .mk)):=rfl
variable {cap:Operand}
theorem ZFc {len:Operand}{K:ASt->Prop}{k:Box K}:aop P B N ⟨d,.makeSlice ty len cap,t,p,es,g⟩ st (hold K k)=(aef P B (.makeSlice ty len cap) (ev st.fr) st.σ (hold (fun r σ'=>ZAA N d r st.fr σ' (hold K .mk)) .mk)):=rfl
theorem ZFS {len:Operand}{K:AV->Prop}{k:Box K}:ZCH P B (.makeSlice ty len cap) fr σ (hold K k)=(aef P B (.makeSlice ty len cap) (ev fr) σ (hold (fun r σ'=>chk (σ'=σ) (hold (K r) .mk)) .mk)):=rfl
variable {low high mx:Option Operand}
theorem ZLH {K:ASt->Prop}{k:Box K}:aop P B N ⟨d,.slice ty x low high mx,t,p,es,g⟩ st (hold K k)=(aef P B (.slice ty x low high mx) (ev st.fr) st.σ (hold (fun r σ'=>ZAA N d r st.fr σ' (hold K .mk)) .mk)):=rfl
theorem ZKw {K:AV->Prop}{k:Box K}:ZCH P B (.slice ty x low high mx) fr σ (hold K k)=(aef P B (.slice ty x low high mx) (ev fr) σ (hold (fun r σ'=>chk (σ'=σ) (hold (K r) .mk)) .mk)):=rfl
variable {f:Nat}
theorem ZFe {K:ASt->Prop}{k:Box K}:aop P B N ⟨d,.fieldAddr ty x f,t,p,es,g⟩ st (hold K k)=(aef P B (.fieldAddr ty x f) (ev st.fr) st.σ (hold (fun r σ'=>ZAA N d r st.fr σ' (hold K .mk)) .mk)):=rfl
theorem ZFU {K:AV->Prop}{k:Box K}:ZCH P B (.fieldAddr ty x f) fr σ (hold K k)=(aef P B (.fieldAddr ty x f) (ev fr) σ (hold (fun r σ'=>chk (σ'=σ) (hold (K r) .mk)) .mk)):=rfl
theorem ZFd {i:Operand}{K:ASt->Prop}{k:Box K}:aop P B N ⟨d,.indexAddr ty x i,t,p,es,g⟩ st (hold K k)=(aef P B (.indexAddr ty x i) (ev st.fr) st.σ (hold (fun r σ'=>ZAA N d r st.fr σ' (hold K .mk)) .mk)):=rfl
theorem ZFT {i:Operand}{K:AV->Prop}{k:Box K}:ZCH P B (.indexAddr ty x i) fr σ (hold K k)=(aef P B (.indexAddr ty x i) (ev fr) σ (hold (fun r σ'=>chk (σ'=σ) (hold (K r) .mk)) .mk)):=rfl
theorem ZLI {i:Operand}{K:ASt->Prop}{k:Box K}:aop P B N ⟨d,.index ty x i,t,p,es,g⟩ st (hold K k)=(aef P B (.index ty x i) (ev st.fr) st.σ (hold (fun r σ'=>ZAA N d r st.fr σ' (hold K .mk)) .mk)):=rfl
theorem ZLJ {K:ASt->Prop}{k:Box K}:aop P B N ⟨d,.field ty x i,t,p,es,g⟩ st (hold K k)=(aef P B (.field ty x i) (ev st.fr) st.σ (hold (fun r σ'=>ZAA N d r st.fr σ' (hold K .mk)) .mk)):=rfl
theorem ZKx {i:Operand}{K:AV->Prop}{k:Box K}:ZCH P B (.index ty x i) fr σ (hold K k)=(aef P B (.index ty x i) (ev fr) σ (hold (fun r σ'=>chk (σ'=σ) (hold (K r) .mk)) .mk)):=rfl
theorem ZKy {K:AV->Prop}{k:Box K}:ZCH P B (.field ty x i) fr σ (hold K k)=(aef P B (.field ty x i) (ev fr) σ (hold (fun r σ'=>chk (σ'=σ) (hold (K r) .mk)) .mk)):=rfl
theorem ZIX {K:ASt->Prop}{k:Box K}:aop P B N ⟨d,.extract x i,t,p,es,g⟩ st (hold K k)=(aef P B (.extract x i) (ev st.fr) st.σ (hold (fun r σ'=>ZAA N d r st.fr σ' (hold K .mk)) .mk)):=rfl
theorem ZH7 {K:AV->Prop}{k:Box K}:ZCH P B (.extract x i) fr σ (hold K k)=(aef P B (.extract x i) (ev fr) σ (hold (fun r σ'=>chk (σ'=σ) (hold (K r) .mk)) .mk)):=rfl
variable {args:Array Operand}{ts:Array TypeId}
theorem ZIZ {bi:Builtin}{K:ASt->Prop}{k:Box K}:aop P B N ⟨d,.call {callee:=.builtin bi,args:=args,argTypes:=ts},t,p,es,g⟩ st (hold K k)=(aef P B (.call {callee:=.builtin bi,args:=args,argTypes:=ts}) (ev st.fr) st.σ (hold (fun r σ'=>ZAA N d r st.fr σ' (hold K .mk)) .mk)):=rfl
theorem ZH9 {bi:Builtin}{K:AV->Prop}{k:Box K}:ZCH P B (.call {callee:=.builtin bi,args:=args,argTypes:=ts}) fr σ (hold K k)=(aef P B (.call {callee:=.builtin bi,args:=args,argTypes:=ts}) (ev fr) σ (hold (fun r σ'=>chk (σ'=σ) (hold (K r) .mk)) .mk)):=rfl
theorem ZM1 {f:Operand}{K:ASt->Prop}{k:Box K}:aop P B N ⟨d,.call {callee:=.value f,args:=args,argTypes:=ts},t,p,es,g⟩ st (hold K k)=(ZE9 P B (ev st.fr f) (args.toList.map (ev st.fr)) st.σ (hold (fun r σ'=>ZAA N d r st.fr σ' (hold K .mk)) .mk)):=rfl
theorem ZMd {f:Operand}{K:AV->Prop}{k:Box K}:ZCH P B (.call {callee:=.value f,args:=args,argTypes:=ts}) fr σ (hold K k)=(PCall P B (ev fr f) (args.toList.map (ev fr)) (hold K .mk)):=rfl
theorem ZLX {f:AV}{args:List AV}{K:AV -> ZB -> Prop}{k:Box K} : ZE9 P B f args σ (hold K k) = (match f with
    | .fn (.func i) first cap=>ACall P B i (first++args++cap) σ (hold K .mk)
    |_=>False):=by
  cases f<;>try rfl
theorem ZLW {f : AV} {args : List AV}{K : AV -> Prop} {k : Box K} : PCall P B f args (hold K k) = (match f with
    | .fn (.func i) first cap=>ZFB P B i (first++args++cap) (hold K .mk)
    |_=>False):=by
  cases f<;>try rfl
theorem ZHP {r:AV}{K:ASt->Prop}{k:Box K}:ZAA N none r fr σ (hold K k)=(K ⟨fr,σ⟩):=rfl
theorem ZHO {d:Nat}{r:AV}{K:ASt->Prop}{k:Box K}(h:d<N):ZAA N (some d) r fr σ (hold K k)=K ⟨(d,r)::fr,σ⟩:=by simp[ZAA,hold,h]
theorem ZLZ {K:Frm->Prop}{k:Box K}:aP P B N ops [] fr σ (hold K k)=(K fr):=rfl
theorem ZJq {o:Oper}{K:Frm->Prop}{k:Box K}:aP P B N (hold ops bo) (o::rest) fr σ (hold K k)=(ZAU (hold ops .mk) fr o.guard (hold (ZCH P B o.op fr σ (hold (fun r=>ZDc N o.dst (hold (aP P B N (hold ops .mk) rest (ZAB o.dst r fr) σ (hold K .mk)) .mk)) .mk)) .mk) (hold (ZDc N o.dst (hold (aP P B N (hold ops .mk) rest (ZAB o.dst (.lit undef) fr) σ (hold K .mk)) .mk)) .mk)):=by rw[aP];rfl
theorem ZHS {K:Prop}{k:Box K}:ZDc N none (hold K k)=(K):=by simp[ZDc,dOk,hold]
theorem ZHR {d:Nat}{K:Prop}{k:Box K}(h:d<N):ZDc N (some d) (hold K k)=K:=by simp[ZDc,dOk,hold,h]
theorem ZEh {α:Type}{l:List α}:(zA l).toList=(l):=rfl
variable {ρ:Operand->AV}{k:Box K}
theorem ZNh :aef P B (.move x) ρ σ (hold K k)=(K (ρ x) σ):=rfl
theorem ZKF :aef P B (.assign x) ρ σ (hold K k)=(K (ρ x) σ):=rfl
theorem ZNg {b:Operand}{ρ:Operand -> AV}{K:AV -> ZB -> Prop}{k:Box K} : aef P B (.pick c a b) ρ σ (hold K k) = (match ρ c with
    | .lit (.bool v)=>abr (v=true) (hold (K (ρ a) σ) .mk) (hold (K (ρ b) σ) .mk)
    |_=>False):=by
  simp only[aef,hold]
  generalize ρ c=v
  cases v<;>try rfl
  next v=>cases v<;>first|(rename_i v;cases v<;>simp[abr];done)|rfl
theorem ZL4 {ρ:Operand -> AV}{K:AV -> ZB -> Prop}{k:Box K} : aef P B (.alloc t) ρ σ (hold K k) = (match Zg P t with
    |some i=>chk (i.zero≠[]) (hold (K (.ptr σ.length 0) (σ++[ZBD t i.zero])) .mk)
    |none=>False):=rfl
variable {r:List Value}
theorem ZNw {k:IntKind}{n:Int}:ZBD t (.int k n::r)=.cells ((.int k n::r).map .lit):=rfl
theorem ZMD {b:Bool}:ZBD t (.bool b::r)=.cells ((.bool b::r).map .lit):=rfl
theorem ZJB {s:ByteArray}:ZBD t (.string s::r)=.cells ((.string s::r).map .lit):=rfl
variable {n:Nat}
theorem ZKQ {a:Option Addr}{c:Nat}:ZBD t (.slice a n c::r)=.cells ((.slice a n c::r).map .lit):=rfl
theorem ZO2 :ZBD t (.nilFunc::r)=.cells ((.nilFunc::r).map .lit):=rfl
theorem ZNv {p:Option Addr}:ZBD t [.pointer p]=.cells [.lit (.pointer p)]:=by cases p<;>rfl
theorem ZNx :ZBD t [.pointer none,.slice none 0 0]=.tcells (some t) [.junk,.lit (.slice none 0 0)]:=rfl
theorem ZOw :aef P B (.box t x) ρ σ (hold K k)=(zF σ (ρ x) (hold (fun cs=>K (.ptr σ.length 0) (σ++[.cells cs])) .mk)):=rfl
theorem ZL2 :aef P B (.build t parts) ρ σ (hold K k)=(ZBV P t σ (parts.toList.map fun p=>(p.1,ρ p.2)) (hold K .mk)):=rfl
theorem ZEw :aef P B (.buildSlice t len parts) ρ σ (hold K k)=(Zs P B t σ len (parts.toList.map fun p=>(p.1,ρ p.2)) (hold K .mk)):=rfl
theorem ZNi :aef P B (.load t x) ρ σ (hold K k)=(ZCI P t σ (ρ x) (hold (fun r=>K r σ) .mk)):=rfl
theorem ZLy :aef P B (.store t a x) ρ σ (hold K k)=(ZC6 P t σ (ρ a) (ρ x) (hold (fun σ'=>K (.lit undef) σ') .mk)):=rfl
theorem ZHc :aef P B (.nilCheck x) ρ σ (hold K k)=(chk (ZBZ σ (ρ x)) (hold (K (ρ x) σ) .mk)):=rfl
theorem ZL3 {yt:TypeId}:aef P B (.binOp op t x y yt) ρ σ (hold K k)=(ZMC P op t (ρ x) (ρ y) (hold (fun r=>K r σ) .mk)):=rfl
theorem ZNf {op:UnOp}:aef P B (.unOp op t x) ρ σ (hold K k)=(aUn op (ρ x) (hold (fun r=>K r σ) .mk)):=rfl
theorem ZIv {s d:TypeId}:aef P B (.convert s d x) ρ σ (hold K k)=(ZDK P s d σ (ρ x) (hold (fun r=>K r σ) .mk)):=rfl
theorem ZHd {fn:Fn}{cap:Array Operand}:aef P B (.makeFunc fn first cap) ρ σ (hold K k)=(K (.fn fn (first.toList.map ρ) (cap.toList.map ρ)) σ):=rfl
theorem ZF1 {l:Operand}:aef P B (.makeSlice t l c) ρ σ (hold K k)=(ZAE P B t σ (ρ l) (ρ c) (hold K .mk)):=rfl
theorem ZLz {lo hi:Option Operand}:aef P B (.slice t x lo hi mx) ρ σ (hold K k)=(ZBT P t σ (ρ x) (lo.map ρ) (hi.map ρ) (mx.map ρ) (hold K .mk)):=rfl
theorem ZF3 :aef P B (.fieldAddr t x f) ρ σ (hold K k)=(Zu P t σ (ρ x) f (hold (fun r=>K r σ) .mk)):=rfl
theorem ZF2 {i:Operand}:aef P B (.indexAddr t x i) ρ σ (hold K k)=(Za P t σ (ρ x) (ρ i) (hold (fun r=>K r σ) .mk)):=rfl
theorem ZL0 {i:Operand}:aef P B (.index t x i) ρ σ (hold K k)=(ZCR P t (ρ x) (ρ i) (hold (fun r=>K r σ) .mk)):=rfl
theorem ZL1 :aef P B (.field t x i) ρ σ (hold K k)=(ZDA P t (ρ x) i (hold (fun r=>K r σ) .mk)):=rfl
theorem ZIu {ρ:Operand -> AV}{K:AV -> ZB -> Prop}{k:Box K} : aef P B (.extract x i) ρ σ (hold K k) = (match ρ x with
    | .tup vs=>chk (i<vs.length) (hold (K (vs.getD i .junk) σ) .mk)
    |_=>False):=rfl
theorem ZOv {y:Operand}{t2:TypeId}:aef P B (.call {callee:=.builtin .len,args:=zA [x],argTypes:=zA [t]}) ρ σ (hold K k)=(ZKO P t σ (ρ x) (hold (fun r=>K r σ) .mk)):=rfl
variable {t2:TypeId}
theorem ZKG :aef P B (.call {callee:=.builtin .append,args:=zA [x,y],argTypes:=zA [t,t2]}) ρ σ (hold K k)=(ZBe P B t t2 σ (ρ x) (ρ y) (hold K .mk)):=rfl
theorem ZOt {ρ:Operand -> AV}{K:AV -> ZB -> Prop}{k:Box K} : aef P B (.call { callee := .builtin .min, args := zA [x, y], argTypes := zA [t, t2] }) ρ σ (hold K k) = (match ρ x, ρ y with
    | .lit (.int k a),.lit (.int _ b)=>K (.lit (.int k (if b<a then b else a))) σ
    |_,_=>False):=by
  simp only[aef,hold,zB,zC]
  unfold ZAd
  generalize ρ x=v;generalize ρ y=u
  cases v<;>try rfl
  next v => cases v <;> try rfl
            cases u<;>try rfl
            next u=>cases u<;>rfl
theorem ZOu {ρ:Operand -> AV}{K:AV -> ZB -> Prop}{k:Box K} : aef P B (.call { callee := .builtin .max, args := zA [x, y], argTypes := zA [t, t2] }) ρ σ (hold K k) = (match ρ x, ρ y with
    | .lit (.int k a),.lit (.int _ b)=>K (.lit (.int k (if b>a then b else a))) σ
    |_,_=>False):=by
  simp only[aef,hold,zB,zC]
  unfold ZAd
  generalize ρ x=v;generalize ρ y=u
  cases v<;>try rfl
  next v => cases v <;> try rfl
            cases u<;>try rfl
            next u=>cases u<;>rfl
theorem ZJ9 {x:AV}{K:List AV->Prop}{k:Box K}:zF σ x (hold K k)=(match x with
  | .agg cs=>K cs
  | .lit v=>chk (ZCO v) (hold (K [.lit v]) .mk)
  | .arr es=>K [.arr es]
  | .rptr e o=>K [.rptr e o]
  | .fn f a b=>K [.fn f a b]
  | .own l n=>chk (ok1 σ (.own l n)) (hold (K [.own l n]) .mk)
  | .ptr l n=>chk (ok1 σ (.ptr l n)) (hold (K [.ptr l n]) .mk)
  | .eptr l n i o=>chk (ok1 σ (.eptr l n i o)) (hold (K [.eptr l n i o]) .mk)
  | .junk=>False
  | .pre _ _ _=>False
  | .tup _=>False):=by cases x<;>simp[zF,ok1,hold,chk]
theorem ZOq {e:List AV}{off:Nat}{K:List AV->Prop}{k:Box K}:rdE e off n (hold K k)=(if off=0/\n=e.length then K e else chk (off+n<=e.length) (hold (K ((e.drop off).take n)) .mk)):=rfl
theorem ZOp {p:AV}{K:List AV->Prop}{k:Box K}:rdN σ p n (hold K k)=(match p with
  | .rptr e off=>rdE e off n (hold K .mk)
  | .ptr l off=>match σ[l]? with
    |some (.cells cs)=>rdE cs off n (hold K .mk)
    |_=>False
  | .eptr l k i off=>match σ[l]? with
    |some (.elems _ es)=>chk (es.length=k) (hold (chk (i<es.length) (hold (rdE (es.getD i []) off n (hold K .mk)) .mk)) .mk)
    |_=>False
  |_=>False):=rfl
theorem ZOr {p:AV}{K:AV->Prop}{k:Box K}:rd1 σ p (hold K k)=(match p with
  | .rptr e off=>chk (off<e.length) (hold (K (e.getD off .junk)) .mk)
  | .ptr l off=>match σ[l]? with
    |some (.cells cs)=>chk (off<cs.length) (hold (K (cs.getD off .junk)) .mk)
    |_=>False
  | .eptr l k i off=>match σ[l]? with
    |some (.elems _ es)=>chk (es.length=k) (hold (chk (i<es.length) (hold (chk (off<(es.getD i []).length) (hold (K ((es.getD i []).getD off .junk)) .mk)) .mk)) .mk)
    |_=>False
  |_=>False):=rfl
theorem ZLt {p:AV}{K:AV->Prop}{k:Box K}:ZCI P t σ p (hold K k)=(match Zg P t with
  |some i=>if i.sh.isAgg then rdN σ p i.size (hold (fun cs=>K (.agg cs)) .mk)else rd1 σ p (hold K .mk)
  |none=>False):=rfl
variable {cs:List AV}
theorem ZOo {e:List AV}{off:Nat}{K:List AV->Prop}{k:Box K}:wrE e off cs (hold K k)=(if off=0/\cs.length=e.length then K cs
  else chk (off+cs.length<=e.length) (hold (K (e.take off++cs++e.drop (off+cs.length))) .mk)):=rfl
theorem ZOn {p:AV}{K:ZB->Prop}{k:Box K}:wrN σ p cs (hold K k)=(match p with
  | .ptr l off=>match σ[l]? with
    |some (.cells old)=>wrE old off cs (hold (fun new=>K (σ.set l (.cells new))) .mk)
    |_=>False
  | .eptr l k i off=>match σ[l]? with
    |some (.elems sz es)=>chk (es.length=k) (hold (chk (i<es.length) (hold (wrE (es.getD i []) off cs (hold (fun new=>K (σ.set l (.elems sz (es.set i (new.map (nzs σ)))))) .mk)) .mk)) .mk)
    |_=>False
  |_=>False):=rfl
theorem ZKA {p v:AV}{K:ZB->Prop}{k:Box K}:ZC6 P t σ p v (hold K k)=(match Zg P t with
  |some i=>zF σ v (hold (fun cs=>chk (cs.length=i.size) (hold (chk (ZZ σ cs) (hold (wrN σ p cs (hold K .mk)) .mk)) .mk)) .mk)
  |none=>False):=rfl
theorem ZEt {p:AV}{K:AV->Prop}{k:Box K}:Zu P t σ p f (hold K k)=(match Zg P t with
  |some ⟨.struct offs,_,_⟩=>match offs[f]? with
    |some (o,s+1)=>chk (ZBZ σ p) (hold (K (p.adv o)) .mk)
    |_=>False
  |_=>False):=rfl
theorem ZEr {x i:AV}{K:AV->Prop}{k:Box K}:Za P t σ x i (hold K k)=(match i,Zg P t with
  | .lit (.int _ n),some ⟨.slice sz _ _,_,_⟩=>match x with
    | .arr es=>chk (0<=n) (hold (chk (n.toNat<es.length) (hold (chk ((es.getD n.toNat []).length=sz) (hold (K (.rptr (es.getD n.toNat []) 0)) .mk)) .mk)) .mk)
    | .own l k=>match σ[l]? with
      |some (.elems sz' es)=>chk (es.length=k) (hold (chk (sz'=sz) (hold (chk (0<=n) (hold (chk (n.toNat<k) (hold (K (.eptr l k n.toNat 0)) .mk)) .mk)) .mk)) .mk)
      |_=>False
    |_=>False
  | .lit (.int _ n),some ⟨.array len (sz+1),_,_⟩=>chk (0<=n) (hold (chk (n.toNat<len) (hold (chk (ZBZ σ x) (hold (K (x.adv (n.toNat*(sz+1)))) .mk)) .mk)) .mk)
  |_,_=>False):=rfl
theorem ZKD {x:AV}{K:AV->Prop}{k:Box K}:ZDA P t x f (hold K k)=(match x,P.underlying t with
  | .agg cs,some (.struct fs)=>match fs[f]? with
    |some d=>match Zg P d.type with
      |some j=>chk (j.sh.isAgg=false) (hold (chk (d.offset<cs.length) (hold (K (cs.getD d.offset .junk)) .mk)) .mk)
      |none=>False
    |none=>False
  |_,_=>False):=rfl
theorem ZKC {x i:AV}{K:AV->Prop}{k:Box K}:ZCR P t x i (hold K k)=(match x,i with
  | .lit (.string s),.lit (.int _ n)=>chk (P.underlying t=some .string) (hold (chk (0<=n) (hold (chk (n.toNat<s.size) (hold (K (.lit (.int .u8 (byteAt s n.toNat)))) .mk)) .mk)) .mk)
  | .agg cs,.lit (.int _ n)=>match P.underlying t with
    |some (.array len e)=>match Zg P e with
      |some j=>chk (j.sh.isAgg=false) (hold (chk (j.size=1) (hold (chk (len=cs.length) (hold (chk (0<=n) (hold (chk (n.toNat<len) (hold (K (cs.getD n.toNat .junk)) .mk)) .mk)) .mk)) .mk)) .mk)
      |none=>False
    |_=>False
  |_,_=>False):=rfl
theorem ZNd {x:AV}{K:AV->Prop}{k:Box K}:ZKO P t σ x (hold K k)=(match P.underlying t with
  |some (.slice _)=>match x with
    | .arr es=>K (.lit (.int .i64 es.length))
    | .lit (.slice none 0 0)=>K (.lit (.int .i64 0))
    | .own l k=>K (.lit (.int .i64 k))
    |_=>False
  |some .string=>match x with
    | .lit (.string s)=>K (.lit (.int .i64 s.size))
    |_=>False
  |some (.array n _)=>K (.lit (.int .i64 n))
  |_=>False):=rfl
theorem ZJ8 {x:AV}{K:List (List AV)->Prop}{k:Box K}:ZCQ σ x (hold K k)=(match x with
  | .arr es=>K es
  | .lit (.slice none 0 0)=>K []
  | .lit (.slice (some _) 0 _)=>K []
  | .own l k=>match σ[l]? with
    |some (.elems _ es)=>chk (es.length=k) (hold (K es) .mk)
    |_=>False
  |_=>False):=rfl
theorem ZIt {s x:AV}:ZBe P B t t2 σ s x (hold K k)=(match Zg P t,P.underlying t2 with
  |some ⟨.slice sz bytes zs,_,_⟩,some (.slice _)=>
    chk (zs.length=sz) (hold (chk (sz≠0) (hold (chk (bytes≠0) (hold (ZCQ σ x (hold (fun new=>chk (ZHK sz new) (hold (chk (ZCT σ new) (hold (
      match s with
      | .lit (.slice none 0 0) => chk (new.length <= bd B) (hold (chk ((2 * new.length + 1024) * bytes <= 281474976710656) (hold (
          K (.own σ.length new.length) (σ++[.elems sz new])) .mk)) .mk)
      | .own l n=>match σ[l]? with
        | some (.elems sz' es) => chk (es.length = n) (hold (chk (sz' = sz) (hold (chk (n + new.length <= bd B) (hold (chk ((2 * (n + new.length) + 1024) * bytes <= 281474976710656) (hold (
            K (.own l (n+new.length)) (σ.set l (.elems sz (es++new)))) .mk)) .mk)) .mk)) .mk)
        |_=>False
      |_=>False) .mk)) .mk)) .mk)) .mk)) .mk)) .mk)
  |_,_=>False):=rfl
theorem ZNe {x y:AV}{K:AV->Prop}{k:Box K}:ZMC P op t x y (hold K k)=(match x,y with
  | .lit (.int k a),.lit (.int k' b)=>chk (k=k') (hold (match op with
    | .add=>K (.lit (.int k (k.wrap (a+b))))
    | .sub=>K (.lit (.int k (k.wrap (a-b))))
    | .mul=>K (.lit (.int k (k.wrap (a*b))))
    | .quo=>chk (b≠0) (hold (K (.lit (.int k (k.wrap (a.tdiv b))))) .mk)
    | .rem=>chk (b≠0) (hold (K (.lit (.int k (a.tmod b)))) .mk)
    | .eql=>K (.lit (.bool (a==b)))
    | .neq=>K (.lit (.bool (a !=b)))
    | .lss=>K (.lit (.bool (a<b)))
    | .leq=>K (.lit (.bool (a<=b)))
    | .gtr=>K (.lit (.bool (a>b)))
    | .geq=>K (.lit (.bool (a≥b)))
    | .xor=>K (.lit (.int k (ZO4 k a b)))
    |_=>False) .mk)
  | .lit (.string a),.lit (.string b)=>match op with
    | .add=>chk ((a.size+b.size:Nat)<=9223372036854775807) (hold (K (.lit (.string (a++b)))) .mk)
    | .eql=>K (.lit (.bool (a.toList==b.toList)))
    | .neq=>K (.lit (.bool (!(a.toList==b.toList))))
    |_=>False
  | .lit (.bool a),.lit (.bool b)=>chk (P.underlying t=some .bool) (hold (match op with
    | .eql=>K (.lit (.bool (a==b)))
    | .neq=>K (.lit (.bool (!(a==b))))
    |_=>False) .mk)
  | .agg xs,.agg ys=>match ZAl xs,ZAl ys with
    |some p,some q=>chk (ZBP P t=true) (hold (match op with
      | .eql=>K (.lit (.bool (dec (eq2 p q))))
      | .neq=>K (.lit (.bool (!dec (eq2 p q))))
      |_=>False) .mk)
    |_,_=>match ZA4 xs,ZA4 ys with
      |some p,some q=>chk (ZCd P t=true) (hold (match op with
        | .eql=>K (.lit (.bool (dec (eq3 p q))))
        | .neq=>K (.lit (.bool (!dec (eq3 p q))))
        |_=>False) .mk)
      |_,_=>match ZBj xs,ZBj ys with
        |some p,some q=>chk (ZDR P t=true) (hold (match op with
          | .eql=>K (.lit (.bool (dec (eq4 p q))))
          | .neq=>K (.lit (.bool (!dec (eq4 p q))))
          |_=>False) .mk)
        |_,_=>False
  | .arr es,.lit (.slice none 0 0)=>chk (ZFD P t=true) (hold (chk (es≠[]) (hold (match op with
    | .eql=>K (.lit (.bool false))
    | .neq=>K (.lit (.bool true))
    |_=>False) .mk)) .mk)
  | .lit (.slice a n c),.lit (.slice none 0 0)=>chk (ZFD P t=true) (hold (match op with
    | .eql=>K (.lit (.bool a.isNone))
    | .neq=>K (.lit (.bool (!a.isNone)))
    |_=>False) .mk)
  |_,_=>False):=rfl
theorem ZOs {op:UnOp}{x:AV}{K:AV->Prop}{k:Box K}:aUn op x (hold K k)=(match op,x with
  | .not,.lit (.bool b)=>K (.lit (.bool (!b)))
  | .neg,.lit (.int k n)=>K (.lit (.int k (k.wrap (0-n))))
  |_,_=>False):=rfl
theorem ZLu {s d:TypeId}{x:AV}{K:AV->Prop}{k:Box K}:ZDK P s d σ x (hold K k)=(match P.underlying s,P.underlying d,x with
  |some (.int _),some (.int k),.lit (.int _ n)=>K (.lit (.int k (k.wrap n)))
  |some (.slice e),some .string,.arr es=>chk (ZA0 P (some (.slice e))=true) (hold (match u8s es with
    |some ns=>K (.lit (.string (ZKk ns)))
    |none=>False) .mk)
  |some (.slice e),some .string,.own l n=>chk (ZA0 P (some (.slice e))=true) (hold (match σ[l]? with
    |some (.elems _ es)=>chk (es.length=n) (hold (match u8s es with
      |some ns=>K (.lit (.string (ZKk ns)))
      |none=>False) .mk)
    |_=>False) .mk)
  |_,_,_=>False):=rfl
theorem ZIs {K:List AV->ZB->Prop}{k:Box K}:frz σ [] (hold K k)=(K [] σ):=id rfl
theorem ZHX {x:AV}{r:List AV}{K:List AV->ZB->Prop}{k:Box K}:frz σ (x::r) (hold K k)=(match x with
  | .own l n=>(match σ[l]? with
    |some (.elems _ es)=>chk (es.length=n) (hold (chk (ZAJ es) (hold (frz (σ.set l .dead) r (hold (fun r' σ'=>K (.arr es::r') σ') .mk)) .mk)) .mk)
    |_=>False)
  | .lit v=>frz σ r (hold (fun r' σ'=>K (.lit v::r') σ') .mk)
  | .arr v=>frz σ r (hold (fun r' σ'=>K (.arr v::r') σ') .mk)
  |y=>frz σ r (hold (fun r' σ'=>K (y::r') σ') .mk)):=by
  simp only[hold]
  cases x with
  |own l n=>simp only[frz];generalize σ[l]? =ob;rcases ob with _|(_|⟨(_|_),cs⟩|⟨(_|_),sz,es⟩)<;>rfl
  |_=>rfl
theorem ZHW {K:List (List AV)->ZB->Prop}{k:Box K}:ZJ0 σ [] (hold K k)=(K [] σ):=id rfl
theorem ZFu {x:List AV}{r:List (List AV)}{K:List (List AV)->ZB->Prop}{k:Box K}:ZJ0 σ (x::r) (hold K k)=(frz σ x (hold (fun e' σ'=>ZJ0 σ' r (hold (fun r' σ''=>K (e'::r') σ'') .mk)) .mk)):=id rfl
theorem ZNb {x:AV}:ZJ2 σ x (hold K k)=(match x with
  | .agg cs=>frz σ cs (hold (fun cs' σ'=>K (.agg cs') σ') .mk)
  | .own l n=>(match σ[l]? with
    |some (.elems _ es)=>chk (es.length=n) (hold (chk (ZAJ es) (hold (K (.arr es) (σ.set l .dead)) .mk)) .mk)
    |_=>False)
  | .lit v=>K (.lit v) σ
  | .arr v=>K (.arr v) σ
  |y=>K y σ):=by cases x<;>rfl
theorem ZHY {K:List AV->ZB->Prop}{k:Box K}:ZIn σ [] (hold K k)=(K [] σ):=rfl
theorem ZFv {x:AV}{r:List AV}{K:List AV->ZB->Prop}{k:Box K}:ZIn σ (x::r) (hold K k)=(ZJ2 σ x (hold (fun x' σ'=>ZIn σ' r (hold (fun r' σ''=>K (x'::r') σ'') .mk)) .mk)):=rfl
theorem ZNa {x:AV}:ZIo σ x (hold K k)=(match x with
  | .tup xs=>ZIn σ xs (hold (fun xs' σ'=>K (.tup xs') σ') .mk)
  | .lit v=>K (.lit v) σ
  | .arr v=>K (.arr v) σ
  |y=>ZJ2 σ y (hold K .mk)):=by cases x<;>rfl
theorem ZHa {K:List AV->Prop}{k:Box K}:ZBK P σ fr [] (hold K k)=(K []):=rfl
theorem ZHZ {t:Nat}{r:List ResultVar}{K:List AV->Prop}{k:Box K}:ZBK P σ fr (.tmp t::r) (hold K k)=(ZBK P σ fr r (hold (fun xs=>K (lk fr t::xs)) .mk)):=rfl
theorem ZFw {a:Nat}{r:List ResultVar}{K:List AV->Prop}{k:Box K}:ZBK P σ fr (.cell a t::r) (hold K k)=(ZCI P t σ (lk fr a) (hold (fun x=>ZBK P σ fr r (hold (fun xs=>K (x::xs)) .mk)) .mk)):=rfl
theorem ZFx {place:Nat->Option (Nat×Nat)}{K:List AV->Prop}{k:Box K}:ZBF place σ cs [] (hold K k)=(K cs):=rfl
theorem ZEs {place:Nat -> Option (Nat × Nat)}{x:AV}{rest:List (Nat × AV)}{K:List AV -> Prop}{k:Box K} : ZBF place σ cs ((i, x) :: rest) (hold K k) = (match place i with
    |some (off,size)=>zF σ x (hold (fun new=>chk (new.length=size) (hold (wrE cs off new (hold (fun cs'=>ZBF place σ cs' rest (hold K .mk)) .mk)) .mk)) .mk)
    |none=>False):=rfl
variable {ps:List (Nat×AV)}
theorem ZKE :ZBV P t σ ps (hold K k)=(match Zg P t with
  |some ⟨.struct offs,_,z⟩=>chk ((∀p,p∈offs->p.2≠0)) (hold (chk (z≠[]) (hold (ZBF (fun i=>offs[i]?) σ (z.map .lit) ps (hold (fun cs=>bfrz σ cs (hold (fun cs' σ'=>K (.agg cs') σ') .mk)) .mk)) .mk)) .mk)
  |some ⟨.array _ (_+1),_,z⟩=>chk (ps=[]) (hold (chk (z≠[]) (hold (K (.agg (z.map .lit)) σ) .mk)) .mk)
  |_=>False):=rfl
theorem ZNc {K:List AV->ZB->Prop}{k:Box K}:bfrz σ cs (hold K k)=(if σ.any isM=true then K cs σ else frz σ cs (hold K .mk)):=rfl
theorem ZLs {es:List (List AV)}{K:List (List AV)->ZB->Prop}{k:Box K}:bfrzs σ es (hold K k)=(if σ.any isK=true/\σ.any isP=true then K es σ else ZJ0 σ es (hold K .mk)):=rfl
theorem ZEe {es:List (List AV)}:isK (.elems n es)=decide (n=0):=by cases n<;>rfl
theorem ZEf :isK (.cells cs)=false:=rfl
theorem ZGl :isK .dead=false:=rfl
variable {xs:List AV}{vs:List Value}
theorem ZGk :isK (.pack xs vs)=false:=rfl
theorem ZEc {es:List (List AV)}:isP (.elems n es)=false:=rfl
theorem ZEd :isP (.cells cs)=false:=rfl
theorem ZGj :isP .dead=false:=rfl
theorem ZGi :isP (.pack xs vs)=true:=rfl
theorem ZIj {es:List (List AV)}:isM (.elems n es)=decide (n=0):=by cases n<;>rfl
theorem ZIk :isM (.cells cs)=false:=rfl
theorem ZJo :isM .dead=false:=rfl
theorem ZJn :isM (.pack xs vs)=true:=rfl
theorem ZHM {es:List (List AV)}:ZNK (.elems n es)=false:=rfl
theorem ZHN :ZNK (.cells cs)=false:=rfl
theorem ZIi :ZNK .dead=false:=rfl
theorem ZIh :ZNK (.pack xs vs)=true:=rfl
theorem ZEu {sz:Nat}{K:List (List AV)->Prop}{k:Box K}:ZBU σ sz j [] (hold K k)=(K []):=rfl
theorem ZD4 {sz:Nat}{x:AV}{rest:List (Nat×AV)}{K:List (List AV)->Prop}{k:Box K}:ZBU σ sz j ((i,x)::rest) (hold K k)=(chk (i=j) (hold (zF σ x (hold (fun e=>chk (e.length=sz) (hold (ZBU σ sz (j+1) rest (hold (fun es=>K (e.map (nzs σ)::es)) .mk)) .mk)) .mk)) .mk)):=rfl
theorem ZD5 :Zs P B t σ len ps (hold K k)=(match Zg P t with
  |some ⟨.slice sz _ z,_,_⟩=>chk (ps.length=len) (hold (chk (len*sz<=16777216) (hold (chk (len<=bd B) (hold (chk (z.length=sz) (hold (chk (sz≠0) (hold (ZBU σ sz 0 ps (hold (fun es=>bfrzs σ es (hold (fun es' σ'=>K (.own σ'.length len) (σ'++[.elems sz es'])) .mk)) .mk)) .mk)) .mk)) .mk)) .mk)) .mk)
  |_=>False):=rfl
theorem ZEq {l c:AV}:ZAE P B t σ l c (hold K k)=(match Zg P t,l,c with
  |some ⟨.slice sz bytes z,_,_⟩,.lit (.int _ n),.lit (.int _ n')=>chk (n=n') (hold (chk (0<=n) (hold (chk (n<=9223372036854775807) (hold (chk (bytes*n<=281474976710656) (hold (chk (n.toNat<=bd B) (hold (chk (z.length=sz) (hold (chk (sz≠0) (hold (K (.own σ.length n.toNat) (σ++[.elems sz (List.replicate n.toNat ((z.map .lit).map (nzs σ)))])) .mk)) .mk)) .mk)) .mk)) .mk)) .mk)) .mk)
  |_,_,_=>False):=rfl
theorem ZJ7 {x:Option AV}{d:Nat}{K:Nat->Prop}{k:Box K}:ZAT x d (hold K k)=(match x with
  |none=>K d
  |some (.lit (.int _ n))=>chk (0<=n) (hold (K n.toNat) .mk)
  |_=>False):=rfl
theorem ZKB {x:AV}{lo hi mx:Option AV}:ZBT P t σ x lo hi mx (hold K k)=(match x,mx with
  | .lit (.string s),none=>chk (P.underlying t=some .string) (hold (
    ZAT lo 0 (hold (fun l=>ZAT hi s.size (hold (fun h=>chk (l<=h) (hold (chk (h<=s.size) (hold (K (.lit (.string (s.extract l h))) σ) .mk)) .mk)) .mk)) .mk)) .mk)
  | .arr es,none=>match Zg P t with
    |some ⟨.slice sz _ _,_,_⟩=>chk (ZHK sz es) (hold (
      ZAT lo 0 (hold (fun l=>ZAT hi es.length (hold (fun h=>chk (l<=h) (hold (chk (h<=es.length) (hold (K (.arr ((es.drop l).take (h-l))) σ) .mk)) .mk)) .mk)) .mk)) .mk)
    |_=>False
  | .own l n,none=>match lo,Zg P t with
    |none,some ⟨.slice _ _ _,_,_⟩=>ZAT hi n (hold (fun h=>chk (h<=n) (hold (K (.pre l n h) σ) .mk)) .mk)
    |_,_=>False
  |_,_=>False):=rfl
theorem ZLr {x:AV}:ZBZ σ x=(match x with
  | .rptr _ _=>True
  | .ptr l _=>match σ[l]? with
    |some (.cells _)=>True
    |_=>False
  | .eptr l k _ _=>match σ[l]? with
    |some (.elems _ es)=>es.length=k/\es≠[]
    |_=>False
  |_=>False):=rfl
end
attribute [simp ↓] ZEB ZDJ ZKI ZJO ZOO ZMX ZDm ZG5 ZFQ
  ZNM ZJp ZNP ZOi ZNQ ZLY ZNN ZNO ZOj ZJN ZOJ ZMS ZKJ ZO0 ZNs ZOS ZJX ZIl ZHQ ZFl ZFk ZMz ZMb ZJe ZJQ ZMy ZMa ZLM ZK1 ZOU ZOP ZLK ZKz ZEV ZEO ZM0 ZMc ZLG ZKv ZHI ZG7 ZLL ZK0 ZMx ZMZ ZIY ZH8 ZHJ ZG8 ZFc ZFS ZLH ZKw ZFe ZFU ZFd ZFT ZLI ZKx ZLJ ZKy ZIX ZH7 ZIZ ZH9 ZM1 ZMd ZLX ZLW ZHP ZHO ZLZ ZJq ZHS ZHR ZEh ZNh ZKF ZNg ZL4 ZNw ZMD ZJB ZKQ ZO2 ZNv ZNx ZOw ZL2 ZEw ZNi ZLy ZHc ZL3 ZNf ZIv ZHd ZF1 ZLz ZF3 ZF2 ZL0 ZL1 ZIu ZOv ZKG ZOt ZOu ZJ9 ZOq ZOp ZOr ZLt ZOo ZOn ZKA ZEt ZEr ZKC ZKD ZNd ZJ8 ZIt ZNe ZOs ZLu ZIs ZHX ZHW ZFu ZNb ZHY ZFv ZNa ZHa ZHZ ZFw ZFx ZEs ZKE ZNc ZLs ZEe ZEf ZGl ZGk ZEc ZEd ZGj ZGi ZEu ZD4 ZD5 ZEq ZJ7 ZKB ZLr
attribute [simp] ZGw ZFH ZN1 u8s ZA0
attribute [simp] ZEe ZEf ZGl ZGk ZEc ZEd ZGj ZGi ZIj ZIk ZJo ZJn ZHM ZHN ZIi ZIh nzs
attribute [simp] nz AV.le AV.le.les ZJ3 ZFL Blk.le pack ZDp Blk.closed Zf ZJ4 AV.bnd AV.bnd.bnds ev ZA3 lk AV.adv Sh.isAgg ZAB
variable {n:Nat}{v:Value}
theorem ZNp :zD n (.lit v)↔True:=by simp[zD]
theorem ZL7 :zD n .junk↔True:=by simp[zD]
variable {es:List (List AV)}
theorem ZNq :zD n (.arr es)↔True:=by simp[zD]
variable {e:List AV}{o:Nat}
theorem ZL6 :zD n (.rptr e o)↔True:=by simp[zD]
variable {l i k:Nat}
theorem ZNn :zD n (.pre l i k)↔l<n:=by simp[zD]
theorem ZNo :zD n (.own l k)↔l<n:=by simp[zD]
theorem ZNm :zD n (.ptr l k)↔l<n:=by simp[zD]
theorem ZL8 :zD n (.eptr l k i o)↔l<n:=by simp[zD]
variable {cs:List AV}
theorem ZNr :zD n (.agg cs)↔zD.closeds n cs:=by simp[zD]
theorem ZNl :zD n (.tup cs)↔zD.closeds n cs:=by simp[zD]
variable {xs ys:List AV}
theorem ZOz {f:Fn}:zD n (.fn f xs ys)↔zD.closeds n xs/\zD.closeds n ys:=by simp[zD]
theorem ZL5 :zD.closeds n []↔True:=by simp[zD.closeds]
variable {r:List AV}
theorem ZKH {x:AV}:zD.closeds n (x::r)↔x.closed n/\zD.closeds n r:=by simp[zD.closeds]
theorem ZMi :zE (.lit v)↔True:=by simp[zE]
theorem ZK4 :zE .junk↔True:=by simp[zE]
theorem ZMj :zE (.arr es)↔True:=by simp[zE]
theorem ZK3 :zE (.rptr e o)↔True:=by simp[zE]
theorem ZMg :zE (.pre l i k)↔False:=by simp[zE]
theorem ZMh :zE (.own l k)↔False:=by simp[zE]
theorem ZMf :zE (.ptr l k)↔False:=by simp[zE]
theorem ZMk :zE (.agg cs)↔zE.pures cs:=by simp[zE]
theorem ZMe :zE (.tup cs)↔zE.pures cs:=by simp[zE]
theorem ZOQ {f:Fn}:zE (.fn f xs ys)↔zE.pures xs/\zE.pures ys:=by simp[zE]
theorem ZK2 :zE.pures []↔True:=by simp[zE.pures]
theorem ZJR {x:AV}:zE.pures (x::r)↔x.pure/\zE.pures r:=by simp[zE.pures]
theorem ZJc {b:Bool}:ZCO (.bool b)↔True:=by simp[ZCO]
theorem ZLC {k:IntKind}{b:Int}:ZCO (.int k b)↔True:=by simp[ZCO]
theorem ZHG {b:ByteArray}:ZCO (.string b)↔True:=by simp[ZCO]
variable {a:Option Addr}
theorem ZIT {c:Nat}:ZCO (.slice a l c)↔True:=by simp[ZCO]
theorem ZFZ :ZCO (.pointer a)↔True:=by simp[ZCO]
theorem ZLB {a:Option Nat}:ZCO (.map a)↔True:=by simp[ZCO]
theorem ZFa :ZCO .nilFunc↔True:=by simp[ZCO]
variable {σ:ZB}
theorem ZMv :ok1 σ (.lit v)↔ZCO v:=by simp[ok1]
theorem ZMw :ok1 σ (.arr es)↔True:=by simp[ok1]
theorem ZLE :ok1 σ (.rptr e o)↔True:=by simp[ok1]
theorem ZOT {f:Fn}:ok1 σ (.fn f xs ys)↔True:=by simp[ok1]
theorem ZMu :ok1 σ (.own l n)=(match σ[l]? with|some (.elems _ es)=>es.length=n|_=>False):=rfl
theorem ZMt :ok1 σ (.ptr l n)=(match σ[l]? with|some (.cells _)=>True|_=>False):=rfl
theorem ZLF :ok1 σ (.eptr l n i o)=(match σ[l]? with|some (.elems _ es)=>es.length=n/\es≠[]|_=>False):=rfl
theorem ZLD :ZZ σ []↔True:=by simp[ZZ]
theorem ZJd {x:AV}:ZZ σ (x::r)↔ok1 σ x/\ZZ σ r:=by simp[ZZ]
attribute [simp] ZNn ZMg ZNp ZL7 ZNq ZL6 ZNo ZNm ZL8 ZNr ZNl ZOz ZL5 ZKH ZMi ZK4 ZMj ZK3 ZMh ZMf ZMk ZMe ZOQ ZK2 ZJR ZJc ZLC ZHG ZIT ZFZ ZLB ZFa ZMv ZMw ZLE ZOT ZMu ZMt ZLF ZLD ZJd
end Go.Vl
