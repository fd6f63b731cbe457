/- Part. -/
import Derived.Test.YtmjpphcloedceaaGreatVlStep
set_option linter.all false
open List renaming toArray->zA,map_cons->zB,map_nil->zC
namespace Go.Vl
open Go Go.RowKit
open AV renaming closed->zD,pure->zE,cellsK->zF
section
variable {P : Program} {B nb N : Nat}
variable {Q:Exit->ASt->Prop}{q:Box Q}{st:ASt}
theorem ZOH :awp P B nb N .skip st (hold Q q)=(Q .normal st):=rfl
variable {id:Nat}
theorem ZKi {l:List Oper}:awp P B nb N (.region id (zA l) false) st (hold Q q)=(ZHg P B N (hold (zA l) .mk) l st (hold (Q .normal) .mk)):=by simp only[awp,Bool.false_eq_true,if_false,hold]
variable {ops:Array Oper}
theorem ZOK :awp P B nb N (.region id ops true) st (hold Q q)=(ADraw P B nb N (hold ops .mk) st (hold (Q .normal) .mk)):=by simp only[awp,if_true,hold]
variable {b:Code}
theorem ZPZ {a:Code}:awp P B nb N (.seq a b) st (hold Q q)=(awp P B nb N a st (hold (ZOw P B nb N b Q) .mk)):=by simp only[hold];rw[awp];congr
variable {c:Operand}
theorem ZOL {Q:Exit -> ASt -> Prop}{q:Box Q}{a:Code} : awp P B nb N (.cond c a b) st (hold Q q) = (match ev st.fr c with
    | .lit (.bool v)=>abr (v=true) (hold (awp P B nb N a st (hold Q .mk)) .mk) (hold (awp P B nb N b st (hold Q .mk)) .mk)
    |_=>False):=by
  simp only[awp,hold]
  generalize ev st.fr c=v
  cases v<;>try rfl
  next v=>cases v<;>first|exact ZG1.symm|rfl
theorem ZMS {c:Code}:awp P B nb N (.block id c) st (hold Q q)=(awp P B nb N c st (hold (ZHe id Q) .mk)):=by simp only[hold];rw[awp];congr
theorem ZOI {c:Code}:awp P B nb N (.loop c) st (hold Q q)=(ALoop P B nb N (hold c .mk) st (hold Q .mk)):=rfl
variable {i:Nat}
theorem ZOJ :awp P B nb N (.exit i) st (hold Q q)=(Q (.exit i) st):=rfl
theorem ZPa :awp P B nb N .ret st (hold Q q)=(Q .ret st):=rfl
variable {bQ:Box Q}
theorem ZKI {c:Code}{bc:Box c}:ZE8 P B nb N (hold c bc) (hold Q bQ) .normal st=Again P B nb N (hold c .mk) (hold Q .mk) st:=rfl
theorem ZPF {c:Code}{bc:Box c}:ZE8 P B nb N (hold c bc) (hold Q bQ) .ret st=Leave B nb N (hold Q .mk) .ret st:=rfl
theorem ZNS {c:Code}{bc:Box c}:ZE8 P B nb N (hold c bc) (hold Q bQ) (.exit i) st=Leave B nb N (hold Q .mk) (.exit i) st:=rfl
theorem ZKH :ZOw P B nb N b Q .normal st=(awp P B nb N b st (hold Q .mk)):=rfl
theorem ZPA :ZOw P B nb N b Q .ret st=(Q .ret st):=rfl
theorem ZNN :ZOw P B nb N b Q (.exit i) st=(Q (.exit i) st):=rfl
theorem ZLC :ZHe i Q .normal st=(Q .normal st):=rfl
theorem ZPq :ZHe i Q .ret st=(Q .ret st):=rfl
variable {j:Nat}
theorem ZOm :ZHe i Q (.exit j) st=(if j=i then Q .normal st else Q (.exit j) st):=rfl
variable {K:AV->ZE->Prop}
theorem ZPI {fn:Func}:ZAR P fn K .ret st=(ZBp P st.σ st.fr fn.results.toList (hold (fun xs=>ZJh st.σ (pack xs) (hold K .mk)) .mk)):=rfl
theorem ZKR {fn:Func}:ZAR P fn K .normal st=(ZBp P st.σ st.fr fn.results.toList (hold (fun xs=>ZJh st.σ (pack xs) (hold K .mk)) .mk)):=rfl
theorem ZJe {K:ASt->Prop}{k:Box K}:ZHg P B N ops [] st (hold K k)=(K st):=rfl
variable {bo:Box ops}{rest:List Oper}
theorem ZIC {K:ASt->Prop}{k:Box K}{o:Oper}:ZHg P B N (hold ops bo) (o::rest) st (hold K k)=(ZAX (hold ops .mk) st.fr o.guard (hold (aop P B N o st (hold (fun st'=>ZHg P B N (hold ops .mk) rest st' (hold K .mk)) .mk)) .mk) (hold (ZAL N o.dst (.lit undef) st.fr st.σ (hold (fun st'=>ZHg P B N (hold ops .mk) rest st' (hold K .mk)) .mk)) .mk)):=rfl
variable {fr:Frm}
theorem ZGd {y n:Prop}{b:Box y}{b':Box n}:ZAX (hold ops bo) fr none (hold y b) (hold n b')=(y):=rfl
def ZIh (w:Bool)(v:AV)(y n:Prop):Prop:=match v with
  | .lit (.bool b)=>abr (b=w) (hold y .mk) (hold n .mk)
  | .lit _=>n
  |_=>False
variable {w:Bool}
theorem ZHk {b:Bool}{y n:Prop}{k:Box y}{k':Box n}:ZIh w (.lit (.bool b)) (hold y k) (hold n k')=abr (b=w) (hold y .mk) (hold n .mk):=rfl
theorem ZF9 {y n:Prop}{k:Box y}{k':Box n}:ZIh w (.lit undef) (hold y k) (hold n k')=n:=rfl
theorem ZGc {y n:Prop}{b:Box y}{b':Box n} : ZAX (hold ops bo) fr (some (j, w)) (hold y b) (hold n b') = (match (ops[j]?).bind (·.dst) with
      |none=>False
      |some d=>ZIh w (lk fr d) (hold y .mk) (hold n .mk)):=by
  simp only[ZAX,hold]
  generalize(ops[j]?).bind (fun x=>x.dst)=od
  cases od with
  |none=>rfl
  |some d=>
    simp only[]
    generalize lk fr d=v
    cases v<;>try rfl
    next v=>cases v<;>first|(simp only[yb,ZIh,Option.some.injEq];exact ZG1.symm)|(simp[yb,ZIh,hold];done)|rfl
variable {x:Operand}{d:Option Nat}{t:TypeId}{p:String}{es:Array Edge}{g:Option (Nat×Bool)}
theorem ZNt {K:ASt->Prop}{k:Box K}:aop P B N ⟨d,.move x,t,p,es,g⟩ st (hold K k)=(aef P B (.move x) (ev st.fr) st.σ (hold (fun r σ'=>ZAL N d r st.fr σ' (hold K .mk)) .mk)):=rfl
variable {σ:ZE}
theorem ZNW {K:AV->Prop}{k:Box K}:ZCY P B (.move x) fr σ (hold K k)=(aef P B (.move x) (ev fr) σ (hold (fun r σ'=>chk (σ'=σ) (hold (K r) .mk)) .mk)):=rfl
theorem ZKY {K:ASt->Prop}{k:Box K}:aop P B N ⟨d,.assign x,t,p,es,g⟩ st (hold K k)=(aef P B (.assign x) (ev st.fr) st.σ (hold (fun r σ'=>ZAL N d r st.fr σ' (hold K .mk)) .mk)):=rfl
theorem ZKK {K:AV->Prop}{k:Box K}:ZCY P B (.assign x) fr σ (hold K k)=(aef P B (.assign x) (ev fr) σ (hold (fun r σ'=>chk (σ'=σ) (hold (K r) .mk)) .mk)):=rfl
variable {a:Operand}
theorem ZNs {b:Operand}{K:ASt->Prop}{k:Box K}:aop P B N ⟨d,.pick c a b,t,p,es,g⟩ st (hold K k)=(aef P B (.pick c a b) (ev st.fr) st.σ (hold (fun r σ'=>ZAL N d r st.fr σ' (hold K .mk)) .mk)):=rfl
theorem ZNV {b:Operand}{K:AV->Prop}{k:Box K}:ZCY P B (.pick c a b) fr σ (hold K k)=(aef P B (.pick c a b) (ev fr) σ (hold (fun r σ'=>chk (σ'=σ) (hold (K r) .mk)) .mk)):=rfl
variable {e:TypeId}
theorem ZMH {K:ASt->Prop}{k:Box K}:aop P B N ⟨d,.alloc e,t,p,es,g⟩ st (hold K k)=(aef P B (.alloc e) (ev st.fr) st.σ (hold (fun r σ'=>ZAL N d r st.fr σ' (hold K .mk)) .mk)):=rfl
theorem ZLx {K:AV->Prop}{k:Box K}:ZCY P B (.alloc e) fr σ (hold K k)=(aef P B (.alloc e) (ev fr) σ (hold (fun r σ'=>chk (σ'=σ) (hold (K r) .mk)) .mk)):=rfl
theorem ZPK {K:ASt->Prop}{k:Box K}:aop P B N ⟨d,.box e x,t,p,es,g⟩ st (hold K k)=(aef P B (.box e x) (ev st.fr) st.σ (hold (fun r σ'=>ZAL N d r st.fr σ' (hold K .mk)) .mk)):=rfl
theorem ZPG {K:AV->Prop}{k:Box K}:ZCY P B (.box e x) fr σ (hold K k)=(aef P B (.box e x) (ev fr) σ (hold (fun r σ'=>chk (σ'=σ) (hold (K r) .mk)) .mk)):=rfl
variable {ty:TypeId}{parts:Array (Nat×Operand)}
theorem ZMF {K:ASt->Prop}{k:Box K}:aop P B N ⟨d,.build ty parts,t,p,es,g⟩ st (hold K k)=(aef P B (.build ty parts) (ev st.fr) st.σ (hold (fun r σ'=>ZAL N d r st.fr σ' (hold K .mk)) .mk)):=rfl
theorem ZLv {K:AV->Prop}{k:Box K}:ZCY P B (.build ty parts) fr σ (hold K k)=(aef P B (.build ty parts) (ev fr) σ (hold (fun r σ'=>chk (σ'=σ) (hold (K r) .mk)) .mk)):=rfl
variable {len:Nat}
theorem ZFL {K:ASt->Prop}{k:Box K}:aop P B N ⟨d,.buildSlice ty len parts,t,p,es,g⟩ st (hold K k)=(aef P B (.buildSlice ty len parts) (ev st.fr) st.σ (hold (fun r σ'=>ZAL N d r st.fr σ' (hold K .mk)) .mk)):=rfl
theorem ZFE {K:AV->Prop}{k:Box K}:ZCY P B (.buildSlice ty len parts) fr σ (hold K k)=(aef P B (.buildSlice ty len parts) (ev fr) σ (hold (fun r σ'=>chk (σ'=σ) (hold (K r) .mk)) .mk)):=rfl
theorem ZNu {K:ASt->Prop}{k:Box K}:aop P B N ⟨d,.load ty x,t,p,es,g⟩ st (hold K k)=(aef P B (.load ty x) (ev st.fr) st.σ (hold (fun r σ'=>ZAL N d r st.fr σ' (hold K .mk)) .mk)):=rfl
theorem ZNX {K:AV->Prop}{k:Box K}:ZCY P B (.load ty x) fr σ (hold K k)=(aef P B (.load ty x) (ev fr) σ (hold (fun r σ'=>chk (σ'=σ) (hold (K r) .mk)) .mk)):=rfl
theorem ZMB {v:Operand}{K:ASt->Prop}{k:Box K}:aop P B N ⟨d,.store ty x v,t,p,es,g⟩ st (hold K k)=(aef P B (.store ty x v) (ev st.fr) st.σ (hold (fun r σ'=>ZAL N d r st.fr σ' (hold K .mk)) .mk)):=rfl
theorem ZLr {v:Operand}{K:AV->Prop}{k:Box K}:ZCY P B (.store ty x v) fr σ (hold K k)=(aef P B (.store ty x v) (ev fr) σ (hold (fun r σ'=>chk (σ'=σ) (hold (K r) .mk)) .mk)):=rfl
theorem ZH4 {K:ASt->Prop}{k:Box K}:aop P B N ⟨d,.nilCheck x,t,p,es,g⟩ st (hold K k)=(aef P B (.nilCheck x) (ev st.fr) st.σ (hold (fun r σ'=>ZAL N d r st.fr σ' (hold K .mk)) .mk)):=rfl
theorem ZHu {K:AV->Prop}{k:Box K}:ZCY P B (.nilCheck x) fr σ (hold K k)=(aef P B (.nilCheck x) (ev fr) σ (hold (fun r σ'=>chk (σ'=σ) (hold (K r) .mk)) .mk)):=rfl
variable {op:BinOp}{y:Operand}{ty2:TypeId}
theorem ZMG {K:ASt->Prop}{k:Box K}:aop P B N ⟨d,.binOp op ty x y ty2,t,p,es,g⟩ st (hold K k)=(aef P B (.binOp op ty x y ty2) (ev st.fr) st.σ (hold (fun r σ'=>ZAL N d r st.fr σ' (hold K .mk)) .mk)):=rfl
theorem ZLw {K:AV->Prop}{k:Box K}:ZCY P B (.binOp op ty x y ty2) fr σ (hold K k)=(aef P B (.binOp op ty x y ty2) (ev fr) σ (hold (fun r σ'=>chk (σ'=σ) (hold (K r) .mk)) .mk)):=rfl
theorem ZNr {op:UnOp}{K:ASt->Prop}{k:Box K}:aop P B N ⟨d,.unOp op ty x,t,p,es,g⟩ st (hold K k)=(aef P B (.unOp op ty x) (ev st.fr) st.σ (hold (fun r σ'=>ZAL N d r st.fr σ' (hold K .mk)) .mk)):=rfl
theorem ZNU {op:UnOp}{K:AV->Prop}{k:Box K}:ZCY P B (.unOp op ty x) fr σ (hold K k)=(aef P B (.unOp op ty x) (ev fr) σ (hold (fun r σ'=>chk (σ'=σ) (hold (K r) .mk)) .mk)):=rfl
theorem ZJN {K:ASt->Prop}{k:Box K}:aop P B N ⟨d,.convert ty ty2 x,t,p,es,g⟩ st (hold K k)=(aef P B (.convert ty ty2 x) (ev st.fr) st.σ (hold (fun r σ'=>ZAL N d r st.fr σ' (hold K .mk)) .mk)):=rfl
theorem ZIw {K:AV->Prop}{k:Box K}:ZCY P B (.convert ty ty2 x) fr σ (hold K k)=(aef P B (.convert ty ty2 x) (ev fr) σ (hold (fun r σ'=>chk (σ'=σ) (hold (K r) .mk)) .mk)):=rfl
variable {first captured:Array Operand}
theorem ZH5 {fn:Fn}{K:ASt->Prop}{k:Box K}:aop P B N ⟨d,.makeFunc fn first captured,t,p,es,g⟩ st (hold K k)=(aef P B (.makeFunc fn first captured) (ev st.fr) st.σ (hold (fun r σ'=>ZAL N d r st.fr σ' (hold K .mk)) .mk)):=rfl
theorem ZHv {fn:Fn}{K:AV->Prop}{k:Box K}:ZCY P B (.makeFunc fn first captured) fr σ (hold K k)=(aef P B (.makeFunc fn first captured) (ev fr) σ (hold (fun r σ'=>chk (σ'=σ) (hold (K r) .mk)) .mk)):=rfl
variable {cap:Operand}
theorem ZGV {len:Operand}{K:ASt->Prop}{k:Box K}:aop P B N ⟨d,.makeSlice ty len cap,t,p,es,g⟩ st (hold K k)=(aef P B (.makeSlice ty len cap) (ev st.fr) st.σ (hold (fun r σ'=>ZAL N d r st.fr σ' (hold K .mk)) .mk)):=rfl
theorem ZGL {len:Operand}{K:AV->Prop}{k:Box K}:ZCY P B (.makeSlice ty len cap) fr σ (hold K k)=(aef P B (.makeSlice ty len cap) (ev fr) σ (hold (fun r σ'=>chk (σ'=σ) (hold (K r) .mk)) .mk)):=rfl
variable {low high mx:Option Operand}
theorem ZMC {K:ASt->Prop}{k:Box K}:aop P B N ⟨d,.slice ty x low high mx,t,p,es,g⟩ st (hold K k)=(aef P B (.slice ty x low high mx) (ev st.fr) st.σ (hold (fun r σ'=>ZAL N d r st.fr σ' (hold K .mk)) .mk)):=rfl
theorem ZLs {K:AV->Prop}{k:Box K}:ZCY P B (.slice ty x low high mx) fr σ (hold K k)=(aef P B (.slice ty x low high mx) (ev fr) σ (hold (fun r σ'=>chk (σ'=σ) (hold (K r) .mk)) .mk)):=rfl
variable {f:Nat}
theorem ZGX {K:ASt->Prop}{k:Box K}:aop P B N ⟨d,.fieldAddr ty x f,t,p,es,g⟩ st (hold K k)=(aef P B (.fieldAddr ty x f) (ev st.fr) st.σ (hold (fun r σ'=>ZAL N d r st.fr σ' (hold K .mk)) .mk)):=rfl
theorem ZGN {K:AV->Prop}{k:Box K}:ZCY P B (.fieldAddr ty x f) fr σ (hold K k)=(aef P B (.fieldAddr ty x f) (ev fr) σ (hold (fun r σ'=>chk (σ'=σ) (hold (K r) .mk)) .mk)):=rfl
theorem ZGW {i:Operand}{K:ASt->Prop}{k:Box K}:aop P B N ⟨d,.indexAddr ty x i,t,p,es,g⟩ st (hold K k)=(aef P B (.indexAddr ty x i) (ev st.fr) st.σ (hold (fun r σ'=>ZAL N d r st.fr σ' (hold K .mk)) .mk)):=rfl
theorem ZGM {i:Operand}{K:AV->Prop}{k:Box K}:ZCY P B (.indexAddr ty x i) fr σ (hold K k)=(aef P B (.indexAddr ty x i) (ev fr) σ (hold (fun r σ'=>chk (σ'=σ) (hold (K r) .mk)) .mk)):=rfl
theorem ZMD {i:Operand}{K:ASt->Prop}{k:Box K}:aop P B N ⟨d,.index ty x i,t,p,es,g⟩ st (hold K k)=(aef P B (.index ty x i) (ev st.fr) st.σ (hold (fun r σ'=>ZAL N d r st.fr σ' (hold K .mk)) .mk)):=rfl
theorem ZME {K:ASt->Prop}{k:Box K}:aop P B N ⟨d,.field ty x i,t,p,es,g⟩ st (hold K k)=(aef P B (.field ty x i) (ev st.fr) st.σ (hold (fun r σ'=>ZAL N d r st.fr σ' (hold K .mk)) .mk)):=rfl
theorem ZLt {i:Operand}{K:AV->Prop}{k:Box K}:ZCY P B (.index ty x i) fr σ (hold K k)=(aef P B (.index ty x i) (ev fr) σ (hold (fun r σ'=>chk (σ'=σ) (hold (K r) .mk)) .mk)):=rfl
theorem ZLu {K:AV->Prop}{k:Box K}:ZCY P B (.field ty x i) fr σ (hold K k)=(aef P B (.field ty x i) (ev fr) σ (hold (fun r σ'=>chk (σ'=σ) (hold (K r) .mk)) .mk)):=rfl
theorem ZJM {K:ASt->Prop}{k:Box K}:aop P B N ⟨d,.extract x i,t,p,es,g⟩ st (hold K k)=(aef P B (.extract x i) (ev st.fr) st.σ (hold (fun r σ'=>ZAL N d r st.fr σ' (hold K .mk)) .mk)):=rfl
theorem ZIv {K:AV->Prop}{k:Box K}:ZCY P B (.extract x i) fr σ (hold K k)=(aef P B (.extract x i) (ev fr) σ (hold (fun r σ'=>chk (σ'=σ) (hold (K r) .mk)) .mk)):=rfl
variable {args:Array Operand}{ts:Array TypeId}
theorem ZJO {bi:Builtin}{K:ASt->Prop}{k:Box K}:aop P B N ⟨d,.call {callee:=.builtin bi,args:=args,argTypes:=ts},t,p,es,g⟩ st (hold K k)=(aef P B (.call {callee:=.builtin bi,args:=args,argTypes:=ts}) (ev st.fr) st.σ (hold (fun r σ'=>ZAL N d r st.fr σ' (hold K .mk)) .mk)):=rfl
theorem ZIx {bi:Builtin}{K:AV->Prop}{k:Box K}:ZCY P B (.call {callee:=.builtin bi,args:=args,argTypes:=ts}) fr σ (hold K k)=(aef P B (.call {callee:=.builtin bi,args:=args,argTypes:=ts}) (ev fr) σ (hold (fun r σ'=>chk (σ'=σ) (hold (K r) .mk)) .mk)):=rfl
theorem ZNv {f:Operand}{K:ASt->Prop}{k:Box K}:aop P B N ⟨d,.call {callee:=.value f,args:=args,argTypes:=ts},t,p,es,g⟩ st (hold K k)=(ZDt P B (ev st.fr f) (args.toList.map (ev st.fr)) st.σ (hold (fun r σ'=>ZAL N d r st.fr σ' (hold K .mk)) .mk)):=rfl
theorem ZNY {f:Operand}{K:AV->Prop}{k:Box K}:ZCY P B (.call {callee:=.value f,args:=args,argTypes:=ts}) fr σ (hold K k)=(PCall P B (ev fr f) (args.toList.map (ev fr)) (hold K .mk)):=rfl
theorem ZMR {f:AV}{args:List AV}{K:AV -> ZE -> Prop}{k:Box K} : ZDt P B f args σ (hold K k) = (match f with
    | .fn (.func i) first cap=>ACall P B i (first++args++cap) σ (hold K .mk)
    |_=>False):=by
  cases f<;>try rfl
theorem ZMQ {f : AV} {args : List AV}{K : AV -> Prop} {k : Box K} : PCall P B f args (hold K k) = (match f with
    | .fn (.func i) first cap=>ZEX P B i (first++args++cap) (hold K .mk)
    |_=>False):=by
  cases f<;>try rfl
theorem ZIB {r:AV}{K:ASt->Prop}{k:Box K}:ZAL N none r fr σ (hold K k)=(K ⟨fr,σ⟩):=rfl
theorem ZIA {d:Nat}{r:AV}{K:ASt->Prop}{k:Box K}(h:d<N):ZAL N (some d) r fr σ (hold K k)=K ⟨(d,r)::fr,σ⟩:=by simp[ZAL,hold,h]
theorem ZMT {K:Frm->Prop}{k:Box K}:aP P B N ops [] fr σ (hold K k)=(K fr):=rfl
theorem ZKj {o:Oper}{K:Frm->Prop}{k:Box K}:aP P B N (hold ops bo) (o::rest) fr σ (hold K k)=(ZAX (hold ops .mk) fr o.guard (hold (ZCY P B o.op fr σ (hold (fun r=>ZBs N o.dst (hold (aP P B N (hold ops .mk) rest (Zl o.dst r fr) σ (hold K .mk)) .mk)) .mk)) .mk) (hold (ZBs N o.dst (hold (aP P B N (hold ops .mk) rest (Zl o.dst (.lit undef) fr) σ (hold K .mk)) .mk)) .mk)):=by rw[aP];rfl
theorem ZIE {K:Prop}{k:Box K}:ZBs N none (hold K k)=(K):=by simp[ZBs,dOk,hold]
theorem ZID {d:Nat}{K:Prop}{k:Box K}(h:d<N):ZBs N (some d) (hold K k)=K:=by simp[ZBs,dOk,hold,h]
theorem ZFY {α:Type}{l:List α}:(zA l).toList=(l):=rfl
variable {ρ:Operand->AV}{k:Box K}
theorem ZOc :aef P B (.move x) ρ σ (hold K k)=(K (ρ x) σ):=rfl
theorem ZK8 :aef P B (.assign x) ρ σ (hold K k)=(K (ρ x) σ):=rfl
theorem ZOb {b:Operand}{ρ:Operand -> AV}{K:AV -> ZE -> Prop}{k:Box K} : aef P B (.pick c a b) ρ σ (hold K k) = (match ρ c with
    | .lit (.bool v)=>abr (v=true) (hold (K (ρ a) σ) .mk) (hold (K (ρ b) σ) .mk)
    |_=>False):=by
  simp only[aef,hold]
  generalize ρ c=v
  cases v<;>try rfl
  next v=>cases v<;>first|(rename_i v;cases v<;>simp[abr];done)|rfl
theorem ZMy {ρ:Operand -> AV}{K:AV -> ZE -> Prop}{k:Box K} : aef P B (.alloc t) ρ σ (hold K k) = (match Zs P t with
    |some i=>chk (i.zero≠[]) (hold (K (.ptr σ.length 0) (σ++[ZBe t i.zero])) .mk)
    |none=>False):=rfl
variable {r:List Value}
theorem ZOq {k:IntKind}{n:Int}:ZBe t (.int k n::r)=.cells ((.int k n::r).map .lit):=rfl
theorem ZM7 {b:Bool}:ZBe t (.bool b::r)=.cells ((.bool b::r).map .lit):=rfl
theorem ZJ5 {s:ByteArray}:ZBe t (.string s::r)=.cells ((.string s::r).map .lit):=rfl
variable {n:Nat}
theorem ZLJ {a:Option Addr}{c:Nat}:ZBe t (.slice a n c::r)=.cells ((.slice a n c::r).map .lit):=rfl
theorem ZPs :ZBe t (.nilFunc::r)=.cells ((.nilFunc::r).map .lit):=rfl
theorem ZOp {p:Option Addr}:ZBe t [.pointer p]=.cells [.lit (.pointer p)]:=by cases p<;>rfl
theorem ZOr :ZBe t [.pointer none,.slice none 0 0]=.tcells (some t) [.junk,.lit (.slice none 0 0)]:=rfl
theorem ZPn :aef P B (.box t x) ρ σ (hold K k)=(zF σ (ρ x) (hold (fun cs=>K (.ptr σ.length 0) (σ++[.cells cs])) .mk)):=rfl
theorem ZMw :aef P B (.build t parts) ρ σ (hold K k)=(ZBz P t σ (parts.toList.map fun p=>(p.1,ρ p.2)) (hold K .mk)):=rfl
theorem ZFo :aef P B (.buildSlice t len parts) ρ σ (hold K k)=(ZAG P B t σ len (parts.toList.map fun p=>(p.1,ρ p.2)) (hold K .mk)):=rfl
theorem ZOd :aef P B (.load t x) ρ σ (hold K k)=(ZCs P t σ (ρ x) (hold (fun r=>K r σ) .mk)):=rfl
theorem ZMs :aef P B (.store t a x) ρ σ (hold K k)=(ZDo P t σ (ρ a) (ρ x) (hold (fun σ'=>K (.lit undef) σ') .mk)):=rfl
theorem ZIN :aef P B (.nilCheck x) ρ σ (hold K k)=(chk (ZB5 σ (ρ x)) (hold (K (ρ x) σ) .mk)):=rfl
theorem ZMx {yt:TypeId}:aef P B (.binOp op t x y yt) ρ σ (hold K k)=(ZM6 P op t (ρ x) (ρ y) (hold (fun r=>K r σ) .mk)):=rfl
theorem ZOa {op:UnOp}:aef P B (.unOp op t x) ρ σ (hold K k)=(aUn op (ρ x) (hold (fun r=>K r σ) .mk)):=rfl
theorem ZJo {s d:TypeId}:aef P B (.convert s d x) ρ σ (hold K k)=(ZD5 P s d σ (ρ x) (hold (fun r=>K r σ) .mk)):=rfl
theorem ZIO {fn:Fn}{cap:Array Operand}:aef P B (.makeFunc fn first cap) ρ σ (hold K k)=(K (.fn fn (first.toList.map ρ) (cap.toList.map ρ)) σ):=rfl
theorem ZGr {l:Operand}:aef P B (.makeSlice t l c) ρ σ (hold K k)=(ZAT P B t σ (ρ l) (ρ c) (hold K .mk)):=rfl
theorem ZMt {lo hi:Option Operand}:aef P B (.slice t x lo hi mx) ρ σ (hold K k)=(ZBx P t σ (ρ x) (lo.map ρ) (hi.map ρ) (mx.map ρ) (hold K .mk)):=rfl
theorem ZGt :aef P B (.fieldAddr t x f) ρ σ (hold K k)=(ZAJ P t σ (ρ x) f (hold (fun r=>K r σ) .mk)):=rfl
theorem ZGs {i:Operand}:aef P B (.indexAddr t x i) ρ σ (hold K k)=(Zk P t σ (ρ x) (ρ i) (hold (fun r=>K r σ) .mk)):=rfl
theorem ZMu {i:Operand}:aef P B (.index t x i) ρ σ (hold K k)=(ZC2 P t (ρ x) (ρ i) (hold (fun r=>K r σ) .mk)):=rfl
theorem ZMv :aef P B (.field t x i) ρ σ (hold K k)=(ZDs P t (ρ x) i (hold (fun r=>K r σ) .mk)):=rfl
theorem ZJn {ρ:Operand -> AV}{K:AV -> ZE -> Prop}{k:Box K} : aef P B (.extract x i) ρ σ (hold K k) = (match ρ x with
    | .tup vs=>chk (i<vs.length) (hold (K (vs.getD i .junk) σ) .mk)
    |_=>False):=rfl
theorem ZPm {y:Operand}{t2:TypeId}:aef P B (.call {callee:=.builtin .len,args:=zA [x],argTypes:=zA [t]}) ρ σ (hold K k)=(ZLH P t σ (ρ x) (hold (fun r=>K r σ) .mk)):=rfl
variable {t2:TypeId}
theorem ZK9 :aef P B (.call {callee:=.builtin .append,args:=zA [x,y],argTypes:=zA [t,t2]}) ρ σ (hold K k)=(ZCC P B t t2 σ (ρ x) (ρ y) (hold K .mk)):=rfl
theorem ZPk {ρ:Operand -> AV}{K:AV -> ZE -> Prop}{k:Box K} : aef P B (.call { callee := .builtin .min, args := zA [x, y], argTypes := zA [t, t2] }) ρ σ (hold K k) = (match ρ x, ρ y with
    | .lit (.int k a),.lit (.int _ b)=>K (.lit (.int k (if b<a then b else a))) σ
    |_,_=>False):=by
  simp only[aef,hold,zB,zC]
  unfold ZAx
  generalize ρ x=v;generalize ρ y=u
  cases v<;>try rfl
  next v => cases v <;> try rfl
            cases u<;>try rfl
            next u=>cases u<;>rfl
theorem ZPl {ρ:Operand -> AV}{K:AV -> ZE -> Prop}{k:Box K} : aef P B (.call { callee := .builtin .max, args := zA [x, y], argTypes := zA [t, t2] }) ρ σ (hold K k) = (match ρ x, ρ y with
    | .lit (.int k a),.lit (.int _ b)=>K (.lit (.int k (if b>a then b else a))) σ
    |_,_=>False):=by
  simp only[aef,hold,zB,zC]
  unfold ZAx
  generalize ρ x=v;generalize ρ y=u
  cases v<;>try rfl
  next v => cases v <;> try rfl
            cases u<;>try rfl
            next u=>cases u<;>rfl
theorem ZK2 {x:AV}{K:List AV->Prop}{k:Box K}:zF σ x (hold K k)=(match x with
  | .agg cs=>K cs
  | .lit v=>chk (ZBX v) (hold (K [.lit v]) .mk)
  | .arr es=>K [.arr es]
  | .rptr e o=>K [.rptr e o]
  | .fn f a b=>K [.fn f a b]
  | .own l n=>chk (ok1 σ (.own l n)) (hold (K [.own l n]) .mk)
  | .ptr l n=>chk (ok1 σ (.ptr l n)) (hold (K [.ptr l n]) .mk)
  | .eptr l n i o=>chk (ok1 σ (.eptr l n i o)) (hold (K [.eptr l n i o]) .mk)
  | .junk=>False
  | .pre _ _ _=>False
  | .tup _=>False):=by cases x<;>simp[zF,ok1,hold,chk]
theorem ZPh {e:List AV}{off:Nat}{K:List AV->Prop}{k:Box K}:rdE e off n (hold K k)=(if off=0/\n=e.length then K e else chk (off+n<=e.length) (hold (K ((e.drop off).take n)) .mk)):=rfl
theorem ZPg {p:AV}{K:List AV->Prop}{k:Box K}:rdN σ p n (hold K k)=(match p with
  | .rptr e off=>rdE e off n (hold K .mk)
  | .ptr l off=>match σ[l]? with
    |some (.cells cs)=>rdE cs off n (hold K .mk)
    |_=>False
  | .eptr l k i off=>match σ[l]? with
    |some (.elems _ es)=>chk (es.length=k) (hold (chk (i<es.length) (hold (rdE (es.getD i []) off n (hold K .mk)) .mk)) .mk)
    |_=>False
  |_=>False):=rfl
theorem ZPi {p:AV}{K:AV->Prop}{k:Box K}:rd1 σ p (hold K k)=(match p with
  | .rptr e off=>chk (off<e.length) (hold (K (e.getD off .junk)) .mk)
  | .ptr l off=>match σ[l]? with
    |some (.cells cs)=>chk (off<cs.length) (hold (K (cs.getD off .junk)) .mk)
    |_=>False
  | .eptr l k i off=>match σ[l]? with
    |some (.elems _ es)=>chk (es.length=k) (hold (chk (i<es.length) (hold (chk (off<(es.getD i []).length) (hold (K ((es.getD i []).getD off .junk)) .mk)) .mk)) .mk)
    |_=>False
  |_=>False):=rfl
theorem ZMn {p:AV}{K:AV->Prop}{k:Box K}:ZCs P t σ p (hold K k)=(match Zs P t with
  |some i=>if i.sh.isAgg then rdN σ p i.size (hold (fun cs=>K (.agg cs)) .mk)else rd1 σ p (hold K .mk)
  |none=>False):=rfl
variable {cs:List AV}
theorem ZPf {e:List AV}{off:Nat}{K:List AV->Prop}{k:Box K}:wrE e off cs (hold K k)=(if off=0/\cs.length=e.length then K cs
  else chk (off+cs.length<=e.length) (hold (K (e.take off++cs++e.drop (off+cs.length))) .mk)):=rfl
theorem ZPe {p:AV}{K:ZE->Prop}{k:Box K}:wrN σ p cs (hold K k)=(match p with
  | .ptr l off=>match σ[l]? with
    |some (.cells old)=>wrE old off cs (hold (fun new=>K (σ.set l (.cells new))) .mk)
    |_=>False
  | .eptr l k i off=>match σ[l]? with
    |some (.elems sz es)=>chk (es.length=k) (hold (chk (i<es.length) (hold (wrE (es.getD i []) off cs (hold (fun new=>K (σ.set l (.elems sz (es.set i (new.map (nzs σ)))))) .mk)) .mk)) .mk)
    |_=>False
  |_=>False):=rfl
theorem ZK3 {p v:AV}{K:ZE->Prop}{k:Box K}:ZDo P t σ p v (hold K k)=(match Zs P t with
  |some i=>zF σ v (hold (fun cs=>chk (cs.length=i.size) (hold (chk (Zf σ cs) (hold (wrN σ p cs (hold K .mk)) .mk)) .mk)) .mk)
  |none=>False):=rfl
theorem ZFl {p:AV}{K:AV->Prop}{k:Box K}:ZAJ P t σ p f (hold K k)=(match Zs P t with
  |some ⟨.struct offs,_,_⟩=>match offs[f]? with
    |some (o,s+1)=>chk (ZB5 σ p) (hold (K (p.adv o)) .mk)
    |_=>False
  |_=>False):=rfl
theorem ZFj {x i:AV}{K:AV->Prop}{k:Box K}:Zk P t σ x i (hold K k)=(match i,Zs P t with
  | .lit (.int _ n),some ⟨.slice sz _ _,_,_⟩=>match x with
    | .arr es=>chk (0<=n) (hold (chk (n.toNat<es.length) (hold (chk ((es.getD n.toNat []).length=sz) (hold (K (.rptr (es.getD n.toNat []) 0)) .mk)) .mk)) .mk)
    | .own l k=>match σ[l]? with
      |some (.elems sz' es)=>chk (es.length=k) (hold (chk (sz'=sz) (hold (chk (0<=n) (hold (chk (n.toNat<k) (hold (K (.eptr l k n.toNat 0)) .mk)) .mk)) .mk)) .mk)
      |_=>False
    |_=>False
  | .lit (.int _ n),some ⟨.array len (sz+1),_,_⟩=>chk (0<=n) (hold (chk (n.toNat<len) (hold (chk (ZB5 σ x) (hold (K (x.adv (n.toNat*(sz+1)))) .mk)) .mk)) .mk)
  |_,_=>False):=rfl
theorem ZK6 {x:AV}{K:AV->Prop}{k:Box K}:ZDs P t x f (hold K k)=(match x,P.underlying t with
  | .agg cs,some (.struct fs)=>match fs[f]? with
    |some d=>match Zs P d.type with
      |some j=>chk (j.sh.isAgg=false) (hold (chk (d.offset<cs.length) (hold (K (cs.getD d.offset .junk)) .mk)) .mk)
      |none=>False
    |none=>False
  |_,_=>False):=rfl
theorem ZK5 {x i:AV}{K:AV->Prop}{k:Box K}:ZC2 P t x i (hold K k)=(match x,i with
  | .lit (.string s),.lit (.int _ n)=>chk (P.underlying t=some .string) (hold (chk (0<=n) (hold (chk (n.toNat<s.size) (hold (K (.lit (.int .u8 (byteAt s n.toNat)))) .mk)) .mk)) .mk)
  | .agg cs,.lit (.int _ n)=>match P.underlying t with
    |some (.array len e)=>match Zs P e with
      |some j=>chk (j.sh.isAgg=false) (hold (chk (j.size=1) (hold (chk (len=cs.length) (hold (chk (0<=n) (hold (chk (n.toNat<len) (hold (K (cs.getD n.toNat .junk)) .mk)) .mk)) .mk)) .mk)) .mk)
      |none=>False
    |_=>False
  |_,_=>False):=rfl
theorem ZOY {x:AV}{K:AV->Prop}{k:Box K}:ZLH P t σ x (hold K k)=(match P.underlying t with
  |some (.slice _)=>match x with
    | .arr es=>K (.lit (.int .i64 es.length))
    | .lit (.slice none 0 0)=>K (.lit (.int .i64 0))
    | .own l k=>K (.lit (.int .i64 k))
    |_=>False
  |some .string=>match x with
    | .lit (.string s)=>K (.lit (.int .i64 s.size))
    |_=>False
  |some (.array n _)=>K (.lit (.int .i64 n))
  |_=>False):=rfl
theorem ZK1 {x:AV}{K:List (List AV)->Prop}{k:Box K}:ZC0 σ x (hold K k)=(match x with
  | .arr es=>K es
  | .lit (.slice none 0 0)=>K []
  | .lit (.slice (some _) 0 _)=>K []
  | .own l k=>match σ[l]? with
    |some (.elems _ es)=>chk (es.length=k) (hold (K es) .mk)
    |_=>False
  |_=>False):=rfl
theorem ZJm {s x:AV}:ZCC P B t t2 σ s x (hold K k)=(match Zs P t,P.underlying t2 with
  |some ⟨.slice sz bytes zs,_,_⟩,some (.slice _)=>
    chk (zs.length=sz) (hold (chk (sz≠0) (hold (chk (bytes≠0) (hold (ZC0 σ x (hold (fun new=>chk (ZH6 sz new) (hold (chk (ZC5 σ new) (hold (
      match s with
      | .lit (.slice none 0 0) => chk (new.length <= bd B) (hold (chk ((2 * new.length + 1024) * bytes <= 281474976710656) (hold (
          K (.own σ.length new.length) (σ++[.elems sz new])) .mk)) .mk)
      | .own l n=>match σ[l]? with
        | some (.elems sz' es) => chk (es.length = n) (hold (chk (sz' = sz) (hold (chk (n + new.length <= bd B) (hold (chk ((2 * (n + new.length) + 1024) * bytes <= 281474976710656) (hold (
            K (.own l (n+new.length)) (σ.set l (.elems sz (es++new)))) .mk)) .mk)) .mk)) .mk)
        |_=>False
      |_=>False) .mk)) .mk)) .mk)) .mk)) .mk)) .mk)
  |_,_=>False):=rfl
theorem ZOZ {x y:AV}{K:AV->Prop}{k:Box K}:ZM6 P op t x y (hold K k)=(match x,y with
  | .lit (.int k a),.lit (.int k' b)=>chk (k=k') (hold (match op with
    | .add=>K (.lit (.int k (k.wrap (a+b))))
    | .sub=>K (.lit (.int k (k.wrap (a-b))))
    | .mul=>K (.lit (.int k (k.wrap (a*b))))
    | .quo=>chk (b≠0) (hold (K (.lit (.int k (k.wrap (a.tdiv b))))) .mk)
    | .rem=>chk (b≠0) (hold (K (.lit (.int k (a.tmod b)))) .mk)
    | .eql=>K (.lit (.bool (a==b)))
    | .neq=>K (.lit (.bool (a !=b)))
    | .lss=>K (.lit (.bool (a<b)))
    | .leq=>K (.lit (.bool (a<=b)))
    | .gtr=>K (.lit (.bool (a>b)))
    | .geq=>K (.lit (.bool (a≥b)))
    | .xor=>K (.lit (.int k (ZPu k a b)))
    |_=>False) .mk)
  | .lit (.string a),.lit (.string b)=>match op with
    | .add=>chk ((a.size+b.size:Nat)<=9223372036854775807) (hold (K (.lit (.string (a++b)))) .mk)
    | .eql=>K (.lit (.bool (a.toList==b.toList)))
    | .neq=>K (.lit (.bool (!(a.toList==b.toList))))
    |_=>False
  | .lit (.bool a),.lit (.bool b)=>chk (P.underlying t=some .bool) (hold (match op with
    | .eql=>K (.lit (.bool (a==b)))
    | .neq=>K (.lit (.bool (!(a==b))))
    |_=>False) .mk)
  | .agg xs,.agg ys=>match ZA6 xs,ZA6 ys with
    |some p,some q=>chk (ZBu P t=true) (hold (match op with
      | .eql=>K (.lit (.bool (dec (eq2 p q))))
      | .neq=>K (.lit (.bool (!dec (eq2 p q))))
      |_=>False) .mk)
    |_,_=>match ZBT xs,ZBT ys with
      |some p,some q=>chk (ZDH P t=true) (hold (match op with
        | .eql=>K (.lit (.bool (dec (eq3 p q))))
        | .neq=>K (.lit (.bool (!dec (eq3 p q))))
        |_=>False) .mk)
      |_,_=>match ZCH xs,ZCH ys with
        |some p,some q=>chk (ZED P t=true) (hold (match op with
          | .eql=>K (.lit (.bool (dec (eq4 p q))))
          | .neq=>K (.lit (.bool (!dec (eq4 p q))))
          |_=>False) .mk)
        |_,_=>False
  | .arr es,.lit (.slice none 0 0)=>chk (ZE3 P t=true) (hold (chk (es≠[]) (hold (match op with
    | .eql=>K (.lit (.bool false))
    | .neq=>K (.lit (.bool true))
    |_=>False) .mk)) .mk)
  | .lit (.slice a n c),.lit (.slice none 0 0)=>chk (ZE3 P t=true) (hold (match op with
    | .eql=>K (.lit (.bool a.isNone))
    | .neq=>K (.lit (.bool (!a.isNone)))
    |_=>False) .mk)
  |_,_=>False):=rfl
theorem ZPj {op:UnOp}{x:AV}{K:AV->Prop}{k:Box K}:aUn op x (hold K k)=(match op,x with
  | .not,.lit (.bool b)=>K (.lit (.bool (!b)))
  | .neg,.lit (.int k n)=>K (.lit (.int k (k.wrap (0-n))))
  |_,_=>False):=rfl
theorem ZMo {s d:TypeId}{x:AV}{K:AV->Prop}{k:Box K}:ZD5 P s d σ x (hold K k)=(match P.underlying s,P.underlying d,x with
  |some (.int _),some (.int k),.lit (.int _ n)=>K (.lit (.int k (k.wrap n)))
  |some (.slice e),some .string,.arr es=>chk (ZBM P (some (.slice e))=true) (hold (match u8s es with
    |some ns=>K (.lit (.string (ZHC ns)))
    |none=>False) .mk)
  |some (.slice e),some .string,.own l n=>chk (ZBM P (some (.slice e))=true) (hold (match σ[l]? with
    |some (.elems _ es)=>chk (es.length=n) (hold (match u8s es with
      |some ns=>K (.lit (.string (ZHC ns)))
      |none=>False) .mk)
    |_=>False) .mk)
  |_,_,_=>False):=rfl
theorem ZJl {K:List AV->ZE->Prop}{k:Box K}:frz σ [] (hold K k)=(K [] σ):=id rfl
theorem ZIJ {x:AV}{r:List AV}{K:List AV->ZE->Prop}{k:Box K}:frz σ (x::r) (hold K k)=(match x with
  | .own l n=>(match σ[l]? with
    |some (.elems _ es)=>chk (es.length=n) (hold (chk (ZAb es) (hold (frz (σ.set l .dead) r (hold (fun r' σ'=>K (.arr es::r') σ') .mk)) .mk)) .mk)
    |_=>False)
  | .lit v=>frz σ r (hold (fun r' σ'=>K (.lit v::r') σ') .mk)
  | .arr v=>frz σ r (hold (fun r' σ'=>K (.arr v::r') σ') .mk)
  |y=>frz σ r (hold (fun r' σ'=>K (y::r') σ') .mk)):=by
  simp only[hold]
  cases x with
  |own l n=>simp only[frz];generalize σ[l]? =ob;rcases ob with _|(_|⟨(_|_),cs⟩|⟨(_|_),sz,es⟩)<;>rfl
  |_=>rfl
theorem ZII {K:List (List AV)->ZE->Prop}{k:Box K}:ZKt σ [] (hold K k)=(K [] σ):=id rfl
theorem ZGm {x:List AV}{r:List (List AV)}{K:List (List AV)->ZE->Prop}{k:Box K}:ZKt σ (x::r) (hold K k)=(frz σ x (hold (fun e' σ'=>ZKt σ' r (hold (fun r' σ''=>K (e'::r') σ'') .mk)) .mk)):=id rfl
theorem ZOW {x:AV}:ZKv σ x (hold K k)=(match x with
  | .agg cs=>frz σ cs (hold (fun cs' σ'=>K (.agg cs') σ') .mk)
  | .own l n=>(match σ[l]? with
    |some (.elems _ es)=>chk (es.length=n) (hold (chk (ZAb es) (hold (K (.arr es) (σ.set l .dead)) .mk)) .mk)
    |_=>False)
  | .lit v=>K (.lit v) σ
  | .arr v=>K (.arr v) σ
  |y=>K y σ):=by cases x<;>rfl
theorem ZIK {K:List AV->ZE->Prop}{k:Box K}:ZJg σ [] (hold K k)=(K [] σ):=rfl
theorem ZGn {x:AV}{r:List AV}{K:List AV->ZE->Prop}{k:Box K}:ZJg σ (x::r) (hold K k)=(ZKv σ x (hold (fun x' σ'=>ZJg σ' r (hold (fun r' σ''=>K (x'::r') σ'') .mk)) .mk)):=rfl
theorem ZOV {x:AV}:ZJh σ x (hold K k)=(match x with
  | .tup xs=>ZJg σ xs (hold (fun xs' σ'=>K (.tup xs') σ') .mk)
  | .lit v=>K (.lit v) σ
  | .arr v=>K (.arr v) σ
  |y=>ZKv σ y (hold K .mk)):=by cases x<;>rfl
theorem ZIM {K:List AV->Prop}{k:Box K}:ZBp P σ fr [] (hold K k)=(K []):=rfl
theorem ZIL {t:Nat}{r:List ResultVar}{K:List AV->Prop}{k:Box K}:ZBp P σ fr (.tmp t::r) (hold K k)=(ZBp P σ fr r (hold (fun xs=>K (lk fr t::xs)) .mk)):=rfl
theorem ZGo {a:Nat}{r:List ResultVar}{K:List AV->Prop}{k:Box K}:ZBp P σ fr (.cell a t::r) (hold K k)=(ZCs P t σ (lk fr a) (hold (fun x=>ZBp P σ fr r (hold (fun xs=>K (x::xs)) .mk)) .mk)):=rfl
theorem ZGp {place:Nat->Option (Nat×Nat)}{K:List AV->Prop}{k:Box K}:ZBg place σ cs [] (hold K k)=(K cs):=rfl
theorem ZFk {place:Nat -> Option (Nat × Nat)}{x:AV}{rest:List (Nat × AV)}{K:List AV -> Prop}{k:Box K} : ZBg place σ cs ((i, x) :: rest) (hold K k) = (match place i with
    |some (off,size)=>zF σ x (hold (fun new=>chk (new.length=size) (hold (wrE cs off new (hold (fun cs'=>ZBg place σ cs' rest (hold K .mk)) .mk)) .mk)) .mk)
    |none=>False):=rfl
variable {ps:List (Nat×AV)}
theorem ZK7 :ZBz P t σ ps (hold K k)=(match Zs P t with
  |some ⟨.struct offs,_,z⟩=>chk ((∀p,p∈offs->p.2≠0)) (hold (chk (z≠[]) (hold (ZBg (fun i=>offs[i]?) σ (z.map .lit) ps (hold (fun cs=>bfrz σ cs (hold (fun cs' σ'=>K (.agg cs') σ') .mk)) .mk)) .mk)) .mk)
  |some ⟨.array _ (_+1),_,z⟩=>chk (ps=[]) (hold (chk (z≠[]) (hold (K (.agg (z.map .lit)) σ) .mk)) .mk)
  |_=>False):=rfl
theorem ZOX {K:List AV->ZE->Prop}{k:Box K}:bfrz σ cs (hold K k)=(if σ.any isM=true then K cs σ else frz σ cs (hold K .mk)):=rfl
theorem ZMm {es:List (List AV)}{K:List (List AV)->ZE->Prop}{k:Box K}:bfrzs σ es (hold K k)=(if σ.any isK=true/\σ.any isP=true then K es σ else ZKt σ es (hold K .mk)):=rfl
theorem ZFV {es:List (List AV)}:isK (.elems n es)=decide (n=0):=by cases n<;>rfl
theorem ZFW :isK (.cells cs)=false:=rfl
theorem ZHY :isK .dead=false:=rfl
variable {xs:List AV}{vs:List Value}
theorem ZHX :isK (.pack xs vs)=false:=rfl
theorem ZFT {es:List (List AV)}:isP (.elems n es)=false:=rfl
theorem ZFU :isP (.cells cs)=false:=rfl
theorem ZHW :isP .dead=false:=rfl
theorem ZHV :isP (.pack xs vs)=true:=rfl
theorem ZJa {es:List (List AV)}:isM (.elems n es)=decide (n=0):=by cases n<;>rfl
theorem ZJb :isM (.cells cs)=false:=rfl
theorem ZKh :isM .dead=false:=rfl
theorem ZKg :isM (.pack xs vs)=true:=rfl
theorem ZH8 {es:List (List AV)}:ZOE (.elems n es)=false:=rfl
theorem ZH9 :ZOE (.cells cs)=false:=rfl
theorem ZJZ :ZOE .dead=false:=rfl
theorem ZJY :ZOE (.pack xs vs)=true:=rfl
theorem ZFm {sz:Nat}{K:List (List AV)->Prop}{k:Box K}:ZBy σ sz j [] (hold K k)=(K []):=rfl
theorem ZEt {sz:Nat}{x:AV}{rest:List (Nat×AV)}{K:List (List AV)->Prop}{k:Box K}:ZBy σ sz j ((i,x)::rest) (hold K k)=(chk (i=j) (hold (zF σ x (hold (fun e=>chk (e.length=sz) (hold (ZBy σ sz (j+1) rest (hold (fun es=>K (e.map (nzs σ)::es)) .mk)) .mk)) .mk)) .mk)):=rfl
theorem ZEu :ZAG P B t σ len ps (hold K k)=(match Zs P t with
  |some ⟨.slice sz _ z,_,_⟩=>chk (ps.length=len) (hold (chk (len*sz<=16777216) (hold (chk (len<=bd B) (hold (chk (z.length=sz) (hold (chk (sz≠0) (hold (ZBy σ sz 0 ps (hold (fun es=>bfrzs σ es (hold (fun es' σ'=>K (.own σ'.length len) (σ'++[.elems sz es'])) .mk)) .mk)) .mk)) .mk)) .mk)) .mk)) .mk)
  |_=>False):=rfl
theorem ZFi {l c:AV}:ZAT P B t σ l c (hold K k)=(match Zs P t,l,c with
  |some ⟨.slice sz bytes z,_,_⟩,.lit (.int _ n),.lit (.int _ n')=>chk (n=n') (hold (chk (0<=n) (hold (chk (n<=9223372036854775807) (hold (chk (bytes*n<=281474976710656) (hold (chk (n.toNat<=bd B) (hold (chk (z.length=sz) (hold (chk (sz≠0) (hold (K (.own σ.length n.toNat) (σ++[.elems sz (List.replicate n.toNat ((z.map .lit).map (nzs σ)))])) .mk)) .mk)) .mk)) .mk)) .mk)) .mk)) .mk)
  |_,_,_=>False):=rfl
theorem ZK0 {x:Option AV}{d:Nat}{K:Nat->Prop}{k:Box K}:ZAm x d (hold K k)=(match x with
  |none=>K d
  |some (.lit (.int _ n))=>chk (0<=n) (hold (K n.toNat) .mk)
  |_=>False):=rfl
theorem ZK4 {x:AV}{lo hi mx:Option AV}:ZBx P t σ x lo hi mx (hold K k)=(match x,mx with
  | .lit (.string s),none=>chk (P.underlying t=some .string) (hold (
    ZAm lo 0 (hold (fun l=>ZAm hi s.size (hold (fun h=>chk (l<=h) (hold (chk (h<=s.size) (hold (K (.lit (.string (s.extract l h))) σ) .mk)) .mk)) .mk)) .mk)) .mk)
  | .arr es,none=>match Zs P t with
    |some ⟨.slice sz _ _,_,_⟩=>chk (ZH6 sz es) (hold (
      ZAm lo 0 (hold (fun l=>ZAm hi es.length (hold (fun h=>chk (l<=h) (hold (chk (h<=es.length) (hold (K (.arr ((es.drop l).take (h-l))) σ) .mk)) .mk)) .mk)) .mk)) .mk)
    |_=>False
  | .own l n,none=>match lo,Zs P t with
    |none,some ⟨.slice _ _ _,_,_⟩=>ZAm hi n (hold (fun h=>chk (h<=n) (hold (K (.pre l n h) σ) .mk)) .mk)
    |_,_=>False
  |_,_=>False):=rfl
theorem ZMl {x:AV}:ZB5 σ x=(match x with
  | .rptr _ _=>True
  | .ptr l _=>match σ[l]? with
    |some (.cells _)=>True
    |_=>False
  | .eptr l k _ _=>match σ[l]? with
    |some (.elems _ es)=>es.length=k/\es≠[]
    |_=>False
  |_=>False):=rfl
end
attribute [simp ↓] ZEz ZD4 ZLB ZKI ZPF ZNS ZEc ZHs ZGJ
  ZOH ZKi ZOK ZPZ ZOL ZMS ZOI ZOJ ZPa ZKH ZPA ZNN ZLC ZPq ZOm ZPI ZKR ZJe ZIC ZGd ZGc ZNt ZNW ZKY ZKK ZNs ZNV ZMH ZLx ZPK ZPG ZMF ZLv ZFL ZFE ZNu ZNX ZMB ZLr ZH4 ZHu ZMG ZLw ZNr ZNU ZJN ZIw ZH5 ZHv ZGV ZGL ZMC ZLs ZGX ZGN ZGW ZGM ZMD ZLt ZME ZLu ZJM ZIv ZJO ZIx ZNv ZNY ZMR ZMQ ZIB ZIA ZMT ZKj ZIE ZID ZFY ZOc ZK8 ZOb ZMy ZOq ZM7 ZJ5 ZLJ ZPs ZOp ZOr ZPn ZMw ZFo ZOd ZMs ZIN ZMx ZOa ZJo ZIO ZGr ZMt ZGt ZGs ZMu ZMv ZJn ZPm ZK9 ZPk ZPl ZK2 ZPh ZPg ZPi ZMn ZPf ZPe ZK3 ZFl ZFj ZK5 ZK6 ZOY ZK1 ZJm ZOZ ZPj ZMo ZJl ZIJ ZII ZGm ZOW ZIK ZGn ZOV ZIM ZIL ZGo ZGp ZFk ZK7 ZOX ZMm ZFV ZFW ZHY ZHX ZFT ZFU ZHW ZHV ZFm ZEt ZEu ZFi ZK0 ZK4 ZMl
attribute [simp] ZHk ZF9 ZOu u8s ZBM
attribute [simp] ZFV ZFW ZHY ZHX ZFT ZFU ZHW ZHV ZJa ZJb ZKh ZKg ZH8 ZH9 ZJZ ZJY nzs
attribute [simp] nz AV.le AV.le.les ZKw ZGD Blk.le pack ZEf Blk.closed Zu ZKx AV.bnd AV.bnd.bnds ev ZBR lk AV.adv Sh.isAgg Zl
variable {n:Nat}{v:Value}
theorem ZOj :zD n (.lit v)↔True:=by simp[zD]
theorem ZM1 :zD n .junk↔True:=by simp[zD]
variable {es:List (List AV)}
theorem ZOk :zD n (.arr es)↔True:=by simp[zD]
variable {e:List AV}{o:Nat}
theorem ZM0 :zD n (.rptr e o)↔True:=by simp[zD]
variable {l i k:Nat}
theorem ZOh :zD n (.pre l i k)↔l<n:=by simp[zD]
theorem ZOi :zD n (.own l k)↔l<n:=by simp[zD]
theorem ZOg :zD n (.ptr l k)↔l<n:=by simp[zD]
theorem ZM2 :zD n (.eptr l k i o)↔l<n:=by simp[zD]
variable {cs:List AV}
theorem ZOl :zD n (.agg cs)↔zD.closeds n cs:=by simp[zD]
theorem ZOf :zD n (.tup cs)↔zD.closeds n cs:=by simp[zD]
variable {xs ys:List AV}
theorem ZPp {f:Fn}:zD n (.fn f xs ys)↔zD.closeds n xs/\zD.closeds n ys:=by simp[zD]
theorem ZMz :zD.closeds n []↔True:=by simp[zD.closeds]
variable {r:List AV}
theorem ZLA {x:AV}:zD.closeds n (x::r)↔x.closed n/\zD.closeds n r:=by simp[zD.closeds]
theorem ZNd :zE (.lit v)↔True:=by simp[zE]
theorem ZL0 :zE .junk↔True:=by simp[zE]
theorem ZNe :zE (.arr es)↔True:=by simp[zE]
theorem ZLz :zE (.rptr e o)↔True:=by simp[zE]
theorem ZNb :zE (.pre l i k)↔False:=by simp[zE]
theorem ZNc :zE (.own l k)↔False:=by simp[zE]
theorem ZNa :zE (.ptr l k)↔False:=by simp[zE]
theorem ZNf :zE (.agg cs)↔zE.pures cs:=by simp[zE]
theorem ZNZ :zE (.tup cs)↔zE.pures cs:=by simp[zE]
theorem ZPH {f:Fn}:zE (.fn f xs ys)↔zE.pures xs/\zE.pures ys:=by simp[zE]
theorem ZLy :zE.pures []↔True:=by simp[zE.pures]
theorem ZKL {x:AV}:zE.pures (x::r)↔x.pure/\zE.pures r:=by simp[zE.pures]
theorem ZKW {b:Bool}:ZBX (.bool b)↔True:=by simp[ZBX]
theorem ZL7 {k:IntKind}{b:Int}:ZBX (.int k b)↔True:=by simp[ZBX]
theorem ZH2 {b:ByteArray}:ZBX (.string b)↔True:=by simp[ZBX]
variable {a:Option Addr}
theorem ZJI {c:Nat}:ZBX (.slice a l c)↔True:=by simp[ZBX]
theorem ZGS :ZBX (.pointer a)↔True:=by simp[ZBX]
theorem ZL6 {a:Option Nat}:ZBX (.map a)↔True:=by simp[ZBX]
theorem ZGT :ZBX .nilFunc↔True:=by simp[ZBX]
variable {σ:ZE}
theorem ZNp :ok1 σ (.lit v)↔ZBX v:=by simp[ok1]
theorem ZNq :ok1 σ (.arr es)↔True:=by simp[ok1]
theorem ZL9 :ok1 σ (.rptr e o)↔True:=by simp[ok1]
theorem ZPJ {f:Fn}:ok1 σ (.fn f xs ys)↔True:=by simp[ok1]
theorem ZNo :ok1 σ (.own l n)=(match σ[l]? with|some (.elems _ es)=>es.length=n|_=>False):=rfl
theorem ZNn :ok1 σ (.ptr l n)=(match σ[l]? with|some (.cells _)=>True|_=>False):=rfl
theorem ZMA :ok1 σ (.eptr l n i o)=(match σ[l]? with|some (.elems _ es)=>es.length=n/\es≠[]|_=>False):=rfl
theorem ZL8 :Zf σ []↔True:=by simp[Zf]
theorem ZKX {x:AV}:Zf σ (x::r)↔ok1 σ x/\Zf σ r:=by simp[Zf]
attribute [simp] ZOh ZNb ZOj ZM1 ZOk ZM0 ZOi ZOg ZM2 ZOl ZOf ZPp ZMz ZLA ZNd ZL0 ZNe ZLz ZNc ZNa ZNf ZNZ ZPH ZLy ZKL ZKW ZL7 ZH2 ZJI ZGS ZL6 ZGT ZNp ZNq ZL9 ZPJ ZNo ZNn ZMA ZL8 ZKX
end Go.Vl
