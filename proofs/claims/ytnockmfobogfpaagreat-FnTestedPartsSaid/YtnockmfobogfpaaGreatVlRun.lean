/- Part. -/
import Derived.Test.YtnockmfobogfpaaGreatVlStep
set_option linter.all false
open List renaming toArray->zA,map_cons->zB,map_nil->zC
namespace Go.Vl
open Go Go.RowKit
open AV renaming closed->zD,pure->zE,cellsK->zF
section
variable {P : Program} {B nb N : Nat}
variable {Q:Exit->ASt->Prop}{q:Box Q}{st:ASt}
theorem ZQg :awp P B nb N .skip st (hold Q q)=(Q .normal st):=rfl
variable {id:Nat}
theorem ZMY {l:List Oper}:awp P B nb N (.region id (zA l) false) st (hold Q q)=(ZIv P B N (hold (zA l) .mk) l st (hold (Q .normal) .mk)):=by simp only[awp,Bool.false_eq_true,if_false,hold]
variable {ops:Array Oper}
theorem ZQj :awp P B nb N (.region id ops true) st (hold Q q)=(ADraw P B nb N (hold ops .mk) st (hold (Q .normal) .mk)):=by simp only[awp,if_true,hold]
variable {b:Code}
theorem ZR3 {a:Code}:awp P B nb N (.seq a b) st (hold Q q)=(awp P B nb N a st (hold (ZRQ P B nb N b Q) .mk)):=by simp only[hold];rw[awp];congr
variable {c:Operand}
theorem ZQk {Q:Exit -> ASt -> Prop}{q:Box Q}{a:Code} : awp P B nb N (.cond c a b) st (hold Q q) = (match ev st.fr c with
    | .lit (.bool v)=>abr (v=true) (hold (awp P B nb N a st (hold Q .mk)) .mk) (hold (awp P B nb N b st (hold Q .mk)) .mk)
    |_=>False):=by
  simp only[awp,hold]
  generalize ev st.fr c=v
  cases v<;>try rfl
  next v=>cases v<;>first|exact ZIC.symm|rfl
theorem ZOr {c:Code}:awp P B nb N (.block id c) st (hold Q q)=(awp P B nb N c st (hold (ZIt id Q) .mk)):=by simp only[hold];rw[awp];congr
theorem ZQh {c:Code}:awp P B nb N (.loop c) st (hold Q q)=(ALoop P B nb N (hold c .mk) st (hold Q .mk)):=rfl
variable {i:Nat}
theorem ZQi :awp P B nb N (.exit i) st (hold Q q)=(Q (.exit i) st):=rfl
theorem ZR4 :awp P B nb N .ret st (hold Q q)=(Q .ret st):=rfl
variable {bQ:Box Q}
theorem ZL7 {c:Code}{bc:Box c}:ZF3 P B nb N (hold c bc) (hold Q bQ) .normal st=Again P B nb N (hold c .mk) (hold Q .mk) st:=rfl
theorem ZRk {c:Code}{bc:Box c}:ZF3 P B nb N (hold c bc) (hold Q bQ) .ret st=Leave B nb N (hold Q .mk) .ret st:=rfl
theorem ZPt {c:Code}{bc:Box c}:ZF3 P B nb N (hold c bc) (hold Q bQ) (.exit i) st=Leave B nb N (hold Q .mk) (.exit i) st:=rfl
theorem ZL4 :ZRQ P B nb N b Q .normal st=(awp P B nb N b st (hold Q .mk)):=rfl
theorem ZRg :ZRQ P B nb N b Q .ret st=(Q .ret st):=rfl
theorem ZPp :ZRQ P B nb N b Q (.exit i) st=(Q (.exit i) st):=rfl
theorem ZM5 :ZIt i Q .normal st=(Q .normal st):=rfl
theorem ZSK :ZIt i Q .ret st=(Q .ret st):=rfl
variable {j:Nat}
theorem ZRE :ZIt i Q (.exit j) st=(if j=i then Q .normal st else Q (.exit j) st):=rfl
variable {K:AV->ZE->Prop}
theorem ZRn {fn:Func}:ZAG P fn K .ret st=(ZDd P st.σ st.fr fn.results.toList (hold (fun xs=>ZJ7 st.σ (pack xs) (hold K .mk)) .mk)):=rfl
theorem ZMG {fn:Func}:ZAG P fn K .normal st=(ZDd P st.σ st.fr fn.results.toList (hold (fun xs=>ZJ7 st.σ (pack xs) (hold K .mk)) .mk)):=rfl
theorem ZLB {K:ASt->Prop}{k:Box K}:ZIv P B N ops [] st (hold K k)=(K st):=rfl
variable {bo:Box ops}{rest:List Oper}
theorem ZJd {K:ASt->Prop}{k:Box K}{o:Oper}:ZIv P B N (hold ops bo) (o::rest) st (hold K k)=(ZAm (hold ops .mk) st.fr o.guard (hold (aop P B N o st (hold (fun st'=>ZIv P B N (hold ops .mk) rest st' (hold K .mk)) .mk)) .mk) (hold (ZAK N o.dst (.lit undef) st.fr st.σ (hold (fun st'=>ZIv P B N (hold ops .mk) rest st' (hold K .mk)) .mk)) .mk)):=rfl
variable {fr:Frm}
theorem ZHm {y n:Prop}{b:Box y}{b':Box n}:ZAm (hold ops bo) fr none (hold y b) (hold n b')=(y):=rfl
def ZKC (w:Bool)(v:AV)(y n:Prop):Prop:=match v with
  | .lit (.bool b)=>abr (b=w) (hold y .mk) (hold n .mk)
  | .lit _=>n
  |_=>False
variable {w:Bool}
theorem ZI2 {b:Bool}{y n:Prop}{k:Box y}{k':Box n}:ZKC w (.lit (.bool b)) (hold y k) (hold n k')=abr (b=w) (hold y .mk) (hold n .mk):=rfl
theorem ZHA {y n:Prop}{k:Box y}{k':Box n}:ZKC w (.lit undef) (hold y k) (hold n k')=n:=rfl
theorem ZHl {y n:Prop}{b:Box y}{b':Box n} : ZAm (hold ops bo) fr (some (j, w)) (hold y b) (hold n b') = (match (ops[j]?).bind (·.dst) with
      |none=>False
      |some d=>ZKC w (lk fr d) (hold y .mk) (hold n .mk)):=by
  simp only[ZAm,hold]
  generalize(ops[j]?).bind (fun x=>x.dst)=od
  cases od with
  |none=>rfl
  |some d=>
    simp only[]
    generalize lk fr d=v
    cases v<;>try rfl
    next v=>cases v<;>first|(simp only[yb,ZKC,Option.some.injEq];exact ZIC.symm)|(simp[yb,ZKC,hold];done)|rfl
variable {x:Operand}{d:Option Nat}{t:TypeId}{p:String}{es:Array Edge}{g:Option (Nat×Bool)}
theorem ZQK {K:ASt->Prop}{k:Box K}:aop P B N ⟨d,.move x,t,p,es,g⟩ st (hold K k)=(aef P B (.move x) (ev st.fr) st.σ (hold (fun r σ'=>ZAK N d r st.fr σ' (hold K .mk)) .mk)):=rfl
variable {σ:ZE}
theorem ZPx {K:AV->Prop}{k:Box K}:ZCj P B (.move x) fr σ (hold K k)=(aef P B (.move x) (ev fr) σ (hold (fun r σ'=>chk (σ'=σ) (hold (K r) .mk)) .mk)):=rfl
theorem ZMN {K:ASt->Prop}{k:Box K}:aop P B N ⟨d,.assign x,t,p,es,g⟩ st (hold K k)=(aef P B (.assign x) (ev st.fr) st.σ (hold (fun r σ'=>ZAK N d r st.fr σ' (hold K .mk)) .mk)):=rfl
theorem ZL9 {K:AV->Prop}{k:Box K}:ZCj P B (.assign x) fr σ (hold K k)=(aef P B (.assign x) (ev fr) σ (hold (fun r σ'=>chk (σ'=σ) (hold (K r) .mk)) .mk)):=rfl
variable {a:Operand}
theorem ZQJ {b:Operand}{K:ASt->Prop}{k:Box K}:aop P B N ⟨d,.pick c a b,t,p,es,g⟩ st (hold K k)=(aef P B (.pick c a b) (ev st.fr) st.σ (hold (fun r σ'=>ZAK N d r st.fr σ' (hold K .mk)) .mk)):=rfl
theorem ZPw {b:Operand}{K:AV->Prop}{k:Box K}:ZCj P B (.pick c a b) fr σ (hold K k)=(aef P B (.pick c a b) (ev fr) σ (hold (fun r σ'=>chk (σ'=σ) (hold (K r) .mk)) .mk)):=rfl
variable {e:TypeId}
theorem ZOa {K:ASt->Prop}{k:Box K}:aop P B N ⟨d,.alloc e,t,p,es,g⟩ st (hold K k)=(aef P B (.alloc e) (ev st.fr) st.σ (hold (fun r σ'=>ZAK N d r st.fr σ' (hold K .mk)) .mk)):=rfl
theorem ZOE {K:AV->Prop}{k:Box K}:ZCj P B (.alloc e) fr σ (hold K k)=(aef P B (.alloc e) (ev fr) σ (hold (fun r σ'=>chk (σ'=σ) (hold (K r) .mk)) .mk)):=rfl
theorem ZRp {K:ASt->Prop}{k:Box K}:aop P B N ⟨d,.box e x,t,p,es,g⟩ st (hold K k)=(aef P B (.box e x) (ev st.fr) st.σ (hold (fun r σ'=>ZAK N d r st.fr σ' (hold K .mk)) .mk)):=rfl
theorem ZRl {K:AV->Prop}{k:Box K}:ZCj P B (.box e x) fr σ (hold K k)=(aef P B (.box e x) (ev fr) σ (hold (fun r σ'=>chk (σ'=σ) (hold (K r) .mk)) .mk)):=rfl
variable {ty:TypeId}{parts:Array (Nat×Operand)}
theorem ZOY {K:ASt->Prop}{k:Box K}:aop P B N ⟨d,.build ty parts,t,p,es,g⟩ st (hold K k)=(aef P B (.build ty parts) (ev st.fr) st.σ (hold (fun r σ'=>ZAK N d r st.fr σ' (hold K .mk)) .mk)):=rfl
theorem ZOC {K:AV->Prop}{k:Box K}:ZCj P B (.build ty parts) fr σ (hold K k)=(aef P B (.build ty parts) (ev fr) σ (hold (fun r σ'=>chk (σ'=σ) (hold (K r) .mk)) .mk)):=rfl
variable {len:Nat}
theorem ZGK {K:ASt->Prop}{k:Box K}:aop P B N ⟨d,.buildSlice ty len parts,t,p,es,g⟩ st (hold K k)=(aef P B (.buildSlice ty len parts) (ev st.fr) st.σ (hold (fun r σ'=>ZAK N d r st.fr σ' (hold K .mk)) .mk)):=rfl
theorem ZF8 {K:AV->Prop}{k:Box K}:ZCj P B (.buildSlice ty len parts) fr σ (hold K k)=(aef P B (.buildSlice ty len parts) (ev fr) σ (hold (fun r σ'=>chk (σ'=σ) (hold (K r) .mk)) .mk)):=rfl
theorem ZQL {K:ASt->Prop}{k:Box K}:aop P B N ⟨d,.load ty x,t,p,es,g⟩ st (hold K k)=(aef P B (.load ty x) (ev st.fr) st.σ (hold (fun r σ'=>ZAK N d r st.fr σ' (hold K .mk)) .mk)):=rfl
theorem ZPy {K:AV->Prop}{k:Box K}:ZCj P B (.load ty x) fr σ (hold K k)=(aef P B (.load ty x) (ev fr) σ (hold (fun r σ'=>chk (σ'=σ) (hold (K r) .mk)) .mk)):=rfl
theorem ZOU {v:Operand}{K:ASt->Prop}{k:Box K}:aop P B N ⟨d,.store ty x v,t,p,es,g⟩ st (hold K k)=(aef P B (.store ty x v) (ev st.fr) st.σ (hold (fun r σ'=>ZAK N d r st.fr σ' (hold K .mk)) .mk)):=rfl
theorem ZN8 {v:Operand}{K:AV->Prop}{k:Box K}:ZCj P B (.store ty x v) fr σ (hold K k)=(aef P B (.store ty x v) (ev fr) σ (hold (fun r σ'=>chk (σ'=σ) (hold (K r) .mk)) .mk)):=rfl
theorem ZJU {K:ASt->Prop}{k:Box K}:aop P B N ⟨d,.nilCheck x,t,p,es,g⟩ st (hold K k)=(aef P B (.nilCheck x) (ev st.fr) st.σ (hold (fun r σ'=>ZAK N d r st.fr σ' (hold K .mk)) .mk)):=rfl
theorem ZJF {K:AV->Prop}{k:Box K}:ZCj P B (.nilCheck x) fr σ (hold K k)=(aef P B (.nilCheck x) (ev fr) σ (hold (fun r σ'=>chk (σ'=σ) (hold (K r) .mk)) .mk)):=rfl
variable {op:BinOp}{y:Operand}{ty2:TypeId}
theorem ZOZ {K:ASt->Prop}{k:Box K}:aop P B N ⟨d,.binOp op ty x y ty2,t,p,es,g⟩ st (hold K k)=(aef P B (.binOp op ty x y ty2) (ev st.fr) st.σ (hold (fun r σ'=>ZAK N d r st.fr σ' (hold K .mk)) .mk)):=rfl
theorem ZOD {K:AV->Prop}{k:Box K}:ZCj P B (.binOp op ty x y ty2) fr σ (hold K k)=(aef P B (.binOp op ty x y ty2) (ev fr) σ (hold (fun r σ'=>chk (σ'=σ) (hold (K r) .mk)) .mk)):=rfl
theorem ZQI {op:UnOp}{K:ASt->Prop}{k:Box K}:aop P B N ⟨d,.unOp op ty x,t,p,es,g⟩ st (hold K k)=(aef P B (.unOp op ty x) (ev st.fr) st.σ (hold (fun r σ'=>ZAK N d r st.fr σ' (hold K .mk)) .mk)):=rfl
theorem ZPv {op:UnOp}{K:AV->Prop}{k:Box K}:ZCj P B (.unOp op ty x) fr σ (hold K k)=(aef P B (.unOp op ty x) (ev fr) σ (hold (fun r σ'=>chk (σ'=σ) (hold (K r) .mk)) .mk)):=rfl
theorem ZKw {K:ASt->Prop}{k:Box K}:aop P B N ⟨d,.convert ty ty2 x,t,p,es,g⟩ st (hold K k)=(aef P B (.convert ty ty2 x) (ev st.fr) st.σ (hold (fun r σ'=>ZAK N d r st.fr σ' (hold K .mk)) .mk)):=rfl
theorem ZKQ {K:AV->Prop}{k:Box K}:ZCj P B (.convert ty ty2 x) fr σ (hold K k)=(aef P B (.convert ty ty2 x) (ev fr) σ (hold (fun r σ'=>chk (σ'=σ) (hold (K r) .mk)) .mk)):=rfl
variable {first captured:Array Operand}
theorem ZJV {fn:Fn}{K:ASt->Prop}{k:Box K}:aop P B N ⟨d,.makeFunc fn first captured,t,p,es,g⟩ st (hold K k)=(aef P B (.makeFunc fn first captured) (ev st.fr) st.σ (hold (fun r σ'=>ZAK N d r st.fr σ' (hold K .mk)) .mk)):=rfl
theorem ZJG {fn:Fn}{K:AV->Prop}{k:Box K}:ZCj P B (.makeFunc fn first captured) fr σ (hold K k)=(aef P B (.makeFunc fn first captured) (ev fr) σ (hold (fun r σ'=>chk (σ'=σ) (hold (K r) .mk)) .mk)):=rfl
variable {cap:Operand}
theorem ZHa {len:Operand}{K:ASt->Prop}{k:Box K}:aop P B N ⟨d,.makeSlice ty len cap,t,p,es,g⟩ st (hold K k)=(aef P B (.makeSlice ty len cap) (ev st.fr) st.σ (hold (fun r σ'=>ZAK N d r st.fr σ' (hold K .mk)) .mk)):=rfl
theorem ZHO {len:Operand}{K:AV->Prop}{k:Box K}:ZCj P B (.makeSlice ty len cap) fr σ (hold K k)=(aef P B (.makeSlice ty len cap) (ev fr) σ (hold (fun r σ'=>chk (σ'=σ) (hold (K r) .mk)) .mk)):=rfl
variable {low high mx:Option Operand}
theorem ZOV {K:ASt->Prop}{k:Box K}:aop P B N ⟨d,.slice ty x low high mx,t,p,es,g⟩ st (hold K k)=(aef P B (.slice ty x low high mx) (ev st.fr) st.σ (hold (fun r σ'=>ZAK N d r st.fr σ' (hold K .mk)) .mk)):=rfl
theorem ZN9 {K:AV->Prop}{k:Box K}:ZCj P B (.slice ty x low high mx) fr σ (hold K k)=(aef P B (.slice ty x low high mx) (ev fr) σ (hold (fun r σ'=>chk (σ'=σ) (hold (K r) .mk)) .mk)):=rfl
variable {f:Nat}
theorem ZHc {K:ASt->Prop}{k:Box K}:aop P B N ⟨d,.fieldAddr ty x f,t,p,es,g⟩ st (hold K k)=(aef P B (.fieldAddr ty x f) (ev st.fr) st.σ (hold (fun r σ'=>ZAK N d r st.fr σ' (hold K .mk)) .mk)):=rfl
theorem ZHQ {K:AV->Prop}{k:Box K}:ZCj P B (.fieldAddr ty x f) fr σ (hold K k)=(aef P B (.fieldAddr ty x f) (ev fr) σ (hold (fun r σ'=>chk (σ'=σ) (hold (K r) .mk)) .mk)):=rfl
theorem ZHb {i:Operand}{K:ASt->Prop}{k:Box K}:aop P B N ⟨d,.indexAddr ty x i,t,p,es,g⟩ st (hold K k)=(aef P B (.indexAddr ty x i) (ev st.fr) st.σ (hold (fun r σ'=>ZAK N d r st.fr σ' (hold K .mk)) .mk)):=rfl
theorem ZHP {i:Operand}{K:AV->Prop}{k:Box K}:ZCj P B (.indexAddr ty x i) fr σ (hold K k)=(aef P B (.indexAddr ty x i) (ev fr) σ (hold (fun r σ'=>chk (σ'=σ) (hold (K r) .mk)) .mk)):=rfl
theorem ZOW {i:Operand}{K:ASt->Prop}{k:Box K}:aop P B N ⟨d,.index ty x i,t,p,es,g⟩ st (hold K k)=(aef P B (.index ty x i) (ev st.fr) st.σ (hold (fun r σ'=>ZAK N d r st.fr σ' (hold K .mk)) .mk)):=rfl
theorem ZOX {K:ASt->Prop}{k:Box K}:aop P B N ⟨d,.field ty x i,t,p,es,g⟩ st (hold K k)=(aef P B (.field ty x i) (ev st.fr) st.σ (hold (fun r σ'=>ZAK N d r st.fr σ' (hold K .mk)) .mk)):=rfl
theorem ZOA {i:Operand}{K:AV->Prop}{k:Box K}:ZCj P B (.index ty x i) fr σ (hold K k)=(aef P B (.index ty x i) (ev fr) σ (hold (fun r σ'=>chk (σ'=σ) (hold (K r) .mk)) .mk)):=rfl
theorem ZOB {K:AV->Prop}{k:Box K}:ZCj P B (.field ty x i) fr σ (hold K k)=(aef P B (.field ty x i) (ev fr) σ (hold (fun r σ'=>chk (σ'=σ) (hold (K r) .mk)) .mk)):=rfl
theorem ZKv {K:ASt->Prop}{k:Box K}:aop P B N ⟨d,.extract x i,t,p,es,g⟩ st (hold K k)=(aef P B (.extract x i) (ev st.fr) st.σ (hold (fun r σ'=>ZAK N d r st.fr σ' (hold K .mk)) .mk)):=rfl
theorem ZKP {K:AV->Prop}{k:Box K}:ZCj P B (.extract x i) fr σ (hold K k)=(aef P B (.extract x i) (ev fr) σ (hold (fun r σ'=>chk (σ'=σ) (hold (K r) .mk)) .mk)):=rfl
variable {args:Array Operand}{ts:Array TypeId}
theorem ZKx {bi:Builtin}{K:ASt->Prop}{k:Box K}:aop P B N ⟨d,.call {callee:=.builtin bi,args:=args,argTypes:=ts},t,p,es,g⟩ st (hold K k)=(aef P B (.call {callee:=.builtin bi,args:=args,argTypes:=ts}) (ev st.fr) st.σ (hold (fun r σ'=>ZAK N d r st.fr σ' (hold K .mk)) .mk)):=rfl
theorem ZKR {bi:Builtin}{K:AV->Prop}{k:Box K}:ZCj P B (.call {callee:=.builtin bi,args:=args,argTypes:=ts}) fr σ (hold K k)=(aef P B (.call {callee:=.builtin bi,args:=args,argTypes:=ts}) (ev fr) σ (hold (fun r σ'=>chk (σ'=σ) (hold (K r) .mk)) .mk)):=rfl
theorem ZQM {f:Operand}{K:ASt->Prop}{k:Box K}:aop P B N ⟨d,.call {callee:=.value f,args:=args,argTypes:=ts},t,p,es,g⟩ st (hold K k)=(ZG2 P B (ev st.fr f) (args.toList.map (ev st.fr)) st.σ (hold (fun r σ'=>ZAK N d r st.fr σ' (hold K .mk)) .mk)):=rfl
theorem ZPz {f:Operand}{K:AV->Prop}{k:Box K}:ZCj P B (.call {callee:=.value f,args:=args,argTypes:=ts}) fr σ (hold K k)=(PCall P B (ev fr f) (args.toList.map (ev fr)) (hold K .mk)):=rfl
theorem ZOq {f:AV}{args:List AV}{K:AV -> ZE -> Prop}{k:Box K} : ZG2 P B f args σ (hold K k) = (match f with
    | .fn (.func i) first cap=>ACall P B i (first++args++cap) σ (hold K .mk)
    |_=>False):=by
  cases f<;>try rfl
theorem ZOp {f : AV} {args : List AV}{K : AV -> Prop} {k : Box K} : PCall P B f args (hold K k) = (match f with
    | .fn (.func i) first cap=>ZFC P B i (first++args++cap) (hold K .mk)
    |_=>False):=by
  cases f<;>try rfl
theorem ZJc {r:AV}{K:ASt->Prop}{k:Box K}:ZAK N none r fr σ (hold K k)=(K ⟨fr,σ⟩):=rfl
theorem ZJb {d:Nat}{r:AV}{K:ASt->Prop}{k:Box K}(h:d<N):ZAK N (some d) r fr σ (hold K k)=K ⟨(d,r)::fr,σ⟩:=by simp[ZAK,hold,h]
theorem ZOs {K:Frm->Prop}{k:Box K}:aP P B N ops [] fr σ (hold K k)=(K fr):=rfl
theorem ZMZ {o:Oper}{K:Frm->Prop}{k:Box K}:aP P B N (hold ops bo) (o::rest) fr σ (hold K k)=(ZAm (hold ops .mk) fr o.guard (hold (ZCj P B o.op fr σ (hold (fun r=>ZG6 N o.dst (hold (aP P B N (hold ops .mk) rest (ZAT o.dst r fr) σ (hold K .mk)) .mk)) .mk)) .mk) (hold (ZG6 N o.dst (hold (aP P B N (hold ops .mk) rest (ZAT o.dst (.lit undef) fr) σ (hold K .mk)) .mk)) .mk)):=by rw[aP];rfl
theorem ZJf {K:Prop}{k:Box K}:ZG6 N none (hold K k)=(K):=by simp[ZG6,dOk,hold]
theorem ZJe {d:Nat}{K:Prop}{k:Box K}(h:d<N):ZG6 N (some d) (hold K k)=K:=by simp[ZG6,dOk,hold,h]
theorem ZGY {α:Type}{l:List α}:(zA l).toList=(l):=rfl
variable {ρ:Operand->AV}{k:Box K}
theorem ZQ3 :aef P B (.move x) ρ σ (hold K k)=(K (ρ x) σ):=rfl
theorem ZMz :aef P B (.assign x) ρ σ (hold K k)=(K (ρ x) σ):=rfl
theorem ZQ2 {b:Operand}{ρ:Operand -> AV}{K:AV -> ZE -> Prop}{k:Box K} : aef P B (.pick c a b) ρ σ (hold K k) = (match ρ c with
    | .lit (.bool v)=>abr (v=true) (hold (K (ρ a) σ) .mk) (hold (K (ρ b) σ) .mk)
    |_=>False):=by
  simp only[aef,hold]
  generalize ρ c=v
  cases v<;>try rfl
  next v=>cases v<;>first|(rename_i v;cases v<;>simp[abr];done)|rfl
theorem ZPO {ρ:Operand -> AV}{K:AV -> ZE -> Prop}{k:Box K} : aef P B (.alloc t) ρ σ (hold K k) = (match Zm P t with
    |some i=>chk (i.zero≠[]) (hold (K (.ptr σ.length 0) (σ++[ZBJ t i.zero])) .mk)
    |none=>False):=rfl
variable {r:List Value}
theorem ZRI {k:IntKind}{n:Int}:ZBJ t (.int k n::r)=.cells ((.int k n::r).map .lit):=rfl
theorem ZPX {b:Bool}:ZBJ t (.bool b::r)=.cells ((.bool b::r).map .lit):=rfl
theorem ZLp {s:ByteArray}:ZBJ t (.string s::r)=.cells ((.string s::r).map .lit):=rfl
variable {n:Nat}
theorem ZNE {a:Option Addr}{c:Nat}:ZBJ t (.slice a n c::r)=.cells ((.slice a n c::r).map .lit):=rfl
theorem ZSM :ZBJ t (.nilFunc::r)=.cells ((.nilFunc::r).map .lit):=rfl
theorem ZRH {p:Option Addr}:ZBJ t [.pointer p]=.cells [.lit (.pointer p)]:=by cases p<;>rfl
theorem ZRJ :ZBJ t [.pointer none,.slice none 0 0]=.tcells (some t) [.junk,.lit (.slice none 0 0)]:=rfl
theorem ZSI :aef P B (.box t x) ρ σ (hold K k)=(zF σ (ρ x) (hold (fun cs=>K (.ptr σ.length 0) (σ++[.cells cs])) .mk)):=rfl
theorem ZPM :aef P B (.build t parts) ρ σ (hold K k)=(ZB0 P t σ (parts.toList.map fun p=>(p.1,ρ p.2)) (hold K .mk)):=rfl
theorem ZGo :aef P B (.buildSlice t len parts) ρ σ (hold K k)=(ZAC P B t σ len (parts.toList.map fun p=>(p.1,ρ p.2)) (hold K .mk)):=rfl
theorem ZQ4 :aef P B (.load t x) ρ σ (hold K k)=(ZDA P t σ (ρ x) (hold (fun r=>K r σ) .mk)):=rfl
theorem ZPI :aef P B (.store t a x) ρ σ (hold K k)=(ZEC P t σ (ρ a) (ρ x) (hold (fun σ'=>K (.lit undef) σ') .mk)):=rfl
theorem ZJp :aef P B (.nilCheck x) ρ σ (hold K k)=(chk (ZB5 σ (ρ x)) (hold (K (ρ x) σ) .mk)):=rfl
theorem ZPN {yt:TypeId}:aef P B (.binOp op t x y yt) ρ σ (hold K k)=(ZPW P op t (ρ x) (ρ y) (hold (fun r=>K r σ) .mk)):=rfl
theorem ZQ1 {op:UnOp}:aef P B (.unOp op t x) ρ σ (hold K k)=(aUn op (ρ x) (hold (fun r=>K r σ) .mk)):=rfl
theorem ZLN {s d:TypeId}:aef P B (.convert s d x) ρ σ (hold K k)=(ZEW P s d σ (ρ x) (hold (fun r=>K r σ) .mk)):=rfl
theorem ZJq {fn:Fn}{cap:Array Operand}:aef P B (.makeFunc fn first cap) ρ σ (hold K k)=(K (.fn fn (first.toList.map ρ) (cap.toList.map ρ)) σ):=rfl
theorem ZH2 {l:Operand}:aef P B (.makeSlice t l c) ρ σ (hold K k)=(ZAO P B t σ (ρ l) (ρ c) (hold K .mk)):=rfl
theorem ZPJ {lo hi:Option Operand}:aef P B (.slice t x lo hi mx) ρ σ (hold K k)=(ZBy P t σ (ρ x) (lo.map ρ) (hi.map ρ) (mx.map ρ) (hold K .mk)):=rfl
theorem ZH4 :aef P B (.fieldAddr t x f) ρ σ (hold K k)=(ZAF P t σ (ρ x) f (hold (fun r=>K r σ) .mk)):=rfl
theorem ZH3 {i:Operand}:aef P B (.indexAddr t x i) ρ σ (hold K k)=(Zp P t σ (ρ x) (ρ i) (hold (fun r=>K r σ) .mk)):=rfl
theorem ZPK {i:Operand}:aef P B (.index t x i) ρ σ (hold K k)=(ZDL P t (ρ x) (ρ i) (hold (fun r=>K r σ) .mk)):=rfl
theorem ZPL :aef P B (.field t x i) ρ σ (hold K k)=(ZEG P t (ρ x) i (hold (fun r=>K r σ) .mk)):=rfl
theorem ZLM {ρ:Operand -> AV}{K:AV -> ZE -> Prop}{k:Box K} : aef P B (.extract x i) ρ σ (hold K k) = (match ρ x with
    | .tup vs=>chk (i<vs.length) (hold (K (vs.getD i .junk) σ) .mk)
    |_=>False):=rfl
theorem ZSH {y:Operand}{t2:TypeId}:aef P B (.call {callee:=.builtin .len,args:=zA [x],argTypes:=zA [t]}) ρ σ (hold K k)=(ZND P t σ (ρ x) (hold (fun r=>K r σ) .mk)):=rfl
variable {t2:TypeId}
theorem ZM0 :aef P B (.call {callee:=.builtin .append,args:=zA [x,y],argTypes:=zA [t,t2]}) ρ σ (hold K k)=(ZCE P B t t2 σ (ρ x) (ρ y) (hold K .mk)):=rfl
theorem ZSF {ρ:Operand -> AV}{K:AV -> ZE -> Prop}{k:Box K} : aef P B (.call { callee := .builtin .min, args := zA [x, y], argTypes := zA [t, t2] }) ρ σ (hold K k) = (match ρ x, ρ y with
    | .lit (.int k a),.lit (.int _ b)=>K (.lit (.int k (if b<a then b else a))) σ
    |_,_=>False):=by
  simp only[aef,hold,zB,zC]
  unfold ZAw
  generalize ρ x=v;generalize ρ y=u
  cases v<;>try rfl
  next v => cases v <;> try rfl
            cases u<;>try rfl
            next u=>cases u<;>rfl
theorem ZSG {ρ:Operand -> AV}{K:AV -> ZE -> Prop}{k:Box K} : aef P B (.call { callee := .builtin .max, args := zA [x, y], argTypes := zA [t, t2] }) ρ σ (hold K k) = (match ρ x, ρ y with
    | .lit (.int k a),.lit (.int _ b)=>K (.lit (.int k (if b>a then b else a))) σ
    |_,_=>False):=by
  simp only[aef,hold,zB,zC]
  unfold ZAw
  generalize ρ x=v;generalize ρ y=u
  cases v<;>try rfl
  next v => cases v <;> try rfl
            cases u<;>try rfl
            next u=>cases u<;>rfl
theorem ZMt {x:AV}{K:List AV->Prop}{k:Box K}:zF σ x (hold K k)=(match x with
  | .agg cs=>K cs
  | .lit v=>chk (ZEL v) (hold (K [.lit v]) .mk)
  | .arr es=>K [.arr es]
  | .rptr e o=>K [.rptr e o]
  | .fn f a b=>K [.fn f a b]
  | .own l n=>chk (ok1 σ (.own l n)) (hold (K [.own l n]) .mk)
  | .ptr l n=>chk (ok1 σ (.ptr l n)) (hold (K [.ptr l n]) .mk)
  | .eptr l n i o=>chk (ok1 σ (.eptr l n i o)) (hold (K [.eptr l n i o]) .mk)
  | .junk=>False
  | .pre _ _ _=>False
  | .tup _=>False):=by cases x<;>simp[zF,ok1,hold,chk]
theorem ZSC {e:List AV}{off:Nat}{K:List AV->Prop}{k:Box K}:rdE e off n (hold K k)=(if off=0/\n=e.length then K e else chk (off+n<=e.length) (hold (K ((e.drop off).take n)) .mk)):=rfl
theorem ZSB {p:AV}{K:List AV->Prop}{k:Box K}:rdN σ p n (hold K k)=(match p with
  | .rptr e off=>rdE e off n (hold K .mk)
  | .ptr l off=>match σ[l]? with
    |some (.cells cs)=>rdE cs off n (hold K .mk)
    |_=>False
  | .eptr l k i off=>match σ[l]? with
    |some (.elems _ es)=>chk (es.length=k) (hold (chk (i<es.length) (hold (rdE (es.getD i []) off n (hold K .mk)) .mk)) .mk)
    |_=>False
  |_=>False):=rfl
theorem ZSD {p:AV}{K:AV->Prop}{k:Box K}:rd1 σ p (hold K k)=(match p with
  | .rptr e off=>chk (off<e.length) (hold (K (e.getD off .junk)) .mk)
  | .ptr l off=>match σ[l]? with
    |some (.cells cs)=>chk (off<cs.length) (hold (K (cs.getD off .junk)) .mk)
    |_=>False
  | .eptr l k i off=>match σ[l]? with
    |some (.elems _ es)=>chk (es.length=k) (hold (chk (i<es.length) (hold (chk (off<(es.getD i []).length) (hold (K ((es.getD i []).getD off .junk)) .mk)) .mk)) .mk)
    |_=>False
  |_=>False):=rfl
theorem ZPD {p:AV}{K:AV->Prop}{k:Box K}:ZDA P t σ p (hold K k)=(match Zm P t with
  |some i=>if i.sh.isAgg then rdN σ p i.size (hold (fun cs=>K (.agg cs)) .mk)else rd1 σ p (hold K .mk)
  |none=>False):=rfl
variable {cs:List AV}
theorem ZSA {e:List AV}{off:Nat}{K:List AV->Prop}{k:Box K}:wrE e off cs (hold K k)=(if off=0/\cs.length=e.length then K cs
  else chk (off+cs.length<=e.length) (hold (K (e.take off++cs++e.drop (off+cs.length))) .mk)):=rfl
theorem ZR9 {p:AV}{K:ZE->Prop}{k:Box K}:wrN σ p cs (hold K k)=(match p with
  | .ptr l off=>match σ[l]? with
    |some (.cells old)=>wrE old off cs (hold (fun new=>K (σ.set l (.cells new))) .mk)
    |_=>False
  | .eptr l k i off=>match σ[l]? with
    |some (.elems sz es)=>chk (es.length=k) (hold (chk (i<es.length) (hold (wrE (es.getD i []) off cs (hold (fun new=>K (σ.set l (.elems sz (es.set i (new.map (nzs σ)))))) .mk)) .mk)) .mk)
    |_=>False
  |_=>False):=rfl
theorem ZMu {p v:AV}{K:ZE->Prop}{k:Box K}:ZEC P t σ p v (hold K k)=(match Zm P t with
  |some i=>zF σ v (hold (fun cs=>chk (cs.length=i.size) (hold (chk (Zl σ cs) (hold (wrN σ p cs (hold K .mk)) .mk)) .mk)) .mk)
  |none=>False):=rfl
theorem ZGm {p:AV}{K:AV->Prop}{k:Box K}:ZAF P t σ p f (hold K k)=(match Zm P t with
  |some ⟨.struct offs,_,_⟩=>match offs[f]? with
    |some (o,s+1)=>chk (ZB5 σ p) (hold (K (p.adv o)) .mk)
    |_=>False
  |_=>False):=rfl
theorem ZGk {x i:AV}{K:AV->Prop}{k:Box K}:Zp P t σ x i (hold K k)=(match i,Zm P t with
  | .lit (.int _ n),some ⟨.slice sz _ _,_,_⟩=>match x with
    | .arr es=>chk (0<=n) (hold (chk (n.toNat<es.length) (hold (chk ((es.getD n.toNat []).length=sz) (hold (K (.rptr (es.getD n.toNat []) 0)) .mk)) .mk)) .mk)
    | .own l k=>match σ[l]? with
      |some (.elems sz' es)=>chk (es.length=k) (hold (chk (sz'=sz) (hold (chk (0<=n) (hold (chk (n.toNat<k) (hold (K (.eptr l k n.toNat 0)) .mk)) .mk)) .mk)) .mk)
      |_=>False
    |_=>False
  | .lit (.int _ n),some ⟨.array len (sz+1),_,_⟩=>chk (0<=n) (hold (chk (n.toNat<len) (hold (chk (ZB5 σ x) (hold (K (x.adv (n.toNat*(sz+1)))) .mk)) .mk)) .mk)
  |_,_=>False):=rfl
theorem ZMx {x:AV}{K:AV->Prop}{k:Box K}:ZEG P t x f (hold K k)=(match x,P.underlying t with
  | .agg cs,some (.struct fs)=>match fs[f]? with
    |some d=>match Zm P d.type with
      |some j=>chk (j.sh.isAgg=false) (hold (chk (d.offset<cs.length) (hold (K (cs.getD d.offset .junk)) .mk)) .mk)
      |none=>False
    |none=>False
  |_,_=>False):=rfl
theorem ZMw {x i:AV}{K:AV->Prop}{k:Box K}:ZDL P t x i (hold K k)=(match x,i with
  | .lit (.string s),.lit (.int _ n)=>chk (P.underlying t=some .string) (hold (chk (0<=n) (hold (chk (n.toNat<s.size) (hold (K (.lit (.int .u8 (byteAt s n.toNat)))) .mk)) .mk)) .mk)
  | .agg cs,.lit (.int _ n)=>match P.underlying t with
    |some (.array len e)=>match Zm P e with
      |some j=>chk (j.sh.isAgg=false) (hold (chk (j.size=1) (hold (chk (len=cs.length) (hold (chk (0<=n) (hold (chk (n.toNat<len) (hold (K (cs.getD n.toNat .junk)) .mk)) .mk)) .mk)) .mk)) .mk)
      |none=>False
    |_=>False
  |_,_=>False):=rfl
theorem ZQz {x:AV}{K:AV->Prop}{k:Box K}:ZND P t σ x (hold K k)=(match P.underlying t with
  |some (.slice _)=>match x with
    | .arr es=>K (.lit (.int .i64 es.length))
    | .lit (.slice none 0 0)=>K (.lit (.int .i64 0))
    | .own l k=>K (.lit (.int .i64 k))
    |_=>False
  |some .string=>match x with
    | .lit (.string s)=>K (.lit (.int .i64 s.size))
    |_=>False
  |some (.array n _)=>K (.lit (.int .i64 n))
  |_=>False):=rfl
theorem ZMs {x:AV}{K:List (List AV)->Prop}{k:Box K}:ZDJ σ x (hold K k)=(match x with
  | .arr es=>K es
  | .lit (.slice none 0 0)=>K []
  | .lit (.slice (some _) 0 _)=>K []
  | .own l k=>match σ[l]? with
    |some (.elems _ es)=>chk (es.length=k) (hold (K es) .mk)
    |_=>False
  |_=>False):=rfl
theorem ZLL {s x:AV}:ZCE P B t t2 σ s x (hold K k)=(match Zm P t,P.underlying t2 with
  |some ⟨.slice sz bytes zs,_,_⟩,some (.slice _)=>
    chk (zs.length=sz) (hold (chk (sz≠0) (hold (chk (bytes≠0) (hold (ZDJ σ x (hold (fun new=>chk (ZFX sz new) (hold (chk (ZBK σ new) (hold (
      match s with
      | .lit (.slice none 0 0) => chk (new.length <= bd B) (hold (chk ((2 * new.length + 1024) * bytes <= 281474976710656) (hold (
          K (.own σ.length new.length) (σ++[.elems sz new])) .mk)) .mk)
      | .own l n=>match σ[l]? with
        | some (.elems sz' es) => chk (es.length = n) (hold (chk (sz' = sz) (hold (chk (n + new.length <= bd B) (hold (chk ((2 * (n + new.length) + 1024) * bytes <= 281474976710656) (hold (
            K (.own l (n+new.length)) (σ.set l (.elems sz (es++new)))) .mk)) .mk)) .mk)) .mk)
        |_=>False
      |_=>False) .mk)) .mk)) .mk)) .mk)) .mk)) .mk)
  |_,_=>False):=rfl
theorem ZQ0 {x y:AV}{K:AV->Prop}{k:Box K}:ZPW P op t x y (hold K k)=(match x,y with
  | .lit (.int k a),.lit (.int k' b)=>chk (k=k') (hold (match op with
    | .add=>K (.lit (.int k (k.wrap (a+b))))
    | .sub=>K (.lit (.int k (k.wrap (a-b))))
    | .mul=>K (.lit (.int k (k.wrap (a*b))))
    | .quo=>chk (b≠0) (hold (K (.lit (.int k (k.wrap (a.tdiv b))))) .mk)
    | .rem=>chk (b≠0) (hold (K (.lit (.int k (a.tmod b)))) .mk)
    | .eql=>K (.lit (.bool (a==b)))
    | .neq=>K (.lit (.bool (a !=b)))
    | .lss=>K (.lit (.bool (a<b)))
    | .leq=>K (.lit (.bool (a<=b)))
    | .gtr=>K (.lit (.bool (a>b)))
    | .geq=>K (.lit (.bool (a≥b)))
    | .xor=>K (.lit (.int k (ZNr k a b)))
    |_=>False) .mk)
  | .lit (.string a),.lit (.string b)=>match op with
    | .add=>chk ((a.size+b.size:Nat)<=9223372036854775807) (hold (K (.lit (.string (a++b)))) .mk)
    | .eql=>K (.lit (.bool (a.toList==b.toList)))
    | .neq=>K (.lit (.bool (!(a.toList==b.toList))))
    |_=>False
  | .lit (.bool a),.lit (.bool b)=>chk (P.underlying t=some .bool) (hold (match op with
    | .eql=>K (.lit (.bool (a==b)))
    | .neq=>K (.lit (.bool (!(a==b))))
    |_=>False) .mk)
  | .agg xs,.agg ys=>match ZA2 xs,ZA2 ys with
    |some p,some q=>chk (ZCV P t=true) (hold (match op with
      | .eql=>K (.lit (.bool (dec (eq2 p q))))
      | .neq=>K (.lit (.bool (!dec (eq2 p q))))
      |_=>False) .mk)
    |_,_=>match ZBP xs,ZBP ys with
      |some p,some q=>chk (ZDD P t=true) (hold (match op with
        | .eql=>K (.lit (.bool (dec (eq3 p q))))
        | .neq=>K (.lit (.bool (!dec (eq3 p q))))
        |_=>False) .mk)
      |_,_=>match ZCP xs,ZCP ys with
        |some p,some q=>chk (ZEf P t=true) (hold (match op with
          | .eql=>K (.lit (.bool (dec (eq4 p q))))
          | .neq=>K (.lit (.bool (!dec (eq4 p q))))
          |_=>False) .mk)
        |_,_=>False
  | .arr es,.lit (.slice none 0 0)=>chk (ZER P t=true) (hold (chk (es≠[]) (hold (match op with
    | .eql=>K (.lit (.bool false))
    | .neq=>K (.lit (.bool true))
    |_=>False) .mk)) .mk)
  | .lit (.slice a n c),.lit (.slice none 0 0)=>chk (ZER P t=true) (hold (match op with
    | .eql=>K (.lit (.bool a.isNone))
    | .neq=>K (.lit (.bool (!a.isNone)))
    |_=>False) .mk)
  |_,_=>False):=rfl
theorem ZSE {op:UnOp}{x:AV}{K:AV->Prop}{k:Box K}:aUn op x (hold K k)=(match op,x with
  | .not,.lit (.bool b)=>K (.lit (.bool (!b)))
  | .neg,.lit (.int k n)=>K (.lit (.int k (k.wrap (0-n))))
  |_,_=>False):=rfl
theorem ZPE {s d:TypeId}{x:AV}{K:AV->Prop}{k:Box K}:ZEW P s d σ x (hold K k)=(match P.underlying s,P.underlying d,x with
  |some (.int _),some (.int k),.lit (.int _ n)=>K (.lit (.int k (k.wrap n)))
  |some (.slice e),some .string,.arr es=>chk (ZBF P (some (.slice e))=true) (hold (match u8s es with
    |some ns=>K (.lit (.string (ZG4 ns)))
    |none=>False) .mk)
  |some (.slice e),some .string,.own l n=>chk (ZBF P (some (.slice e))=true) (hold (match σ[l]? with
    |some (.elems _ es)=>chk (es.length=n) (hold (match u8s es with
      |some ns=>K (.lit (.string (ZG4 ns)))
      |none=>False) .mk)
    |_=>False) .mk)
  |_,_,_=>False):=rfl
theorem ZLK {K:List AV->ZE->Prop}{k:Box K}:frz σ [] (hold K k)=(K [] σ):=id rfl
theorem ZJk {x:AV}{r:List AV}{K:List AV->ZE->Prop}{k:Box K}:frz σ (x::r) (hold K k)=(match x with
  | .own l n=>(match σ[l]? with
    |some (.elems _ es)=>chk (es.length=n) (hold (chk (Zf es) (hold (frz (σ.set l .dead) r (hold (fun r' σ'=>K (.arr es::r') σ') .mk)) .mk)) .mk)
    |_=>False)
  | .lit v=>frz σ r (hold (fun r' σ'=>K (.lit v::r') σ') .mk)
  | .arr v=>frz σ r (hold (fun r' σ'=>K (.arr v::r') σ') .mk)
  |y=>frz σ r (hold (fun r' σ'=>K (y::r') σ') .mk)):=by
  simp only[hold]
  cases x with
  |own l n=>simp only[frz];generalize σ[l]? =ob;rcases ob with _|(_|⟨(_|_),cs⟩|⟨(_|_),sz,es⟩)<;>rfl
  |_=>rfl
theorem ZJj {K:List (List AV)->ZE->Prop}{k:Box K}:ZMj σ [] (hold K k)=(K [] σ):=id rfl
theorem ZHv {x:List AV}{r:List (List AV)}{K:List (List AV)->ZE->Prop}{k:Box K}:ZMj σ (x::r) (hold K k)=(frz σ x (hold (fun e' σ'=>ZMj σ' r (hold (fun r' σ''=>K (e'::r') σ'') .mk)) .mk)):=id rfl
theorem ZQx {x:AV}:ZHo σ x (hold K k)=(match x with
  | .agg cs=>frz σ cs (hold (fun cs' σ'=>K (.agg cs') σ') .mk)
  | .own l n=>(match σ[l]? with
    |some (.elems _ es)=>chk (es.length=n) (hold (chk (Zf es) (hold (K (.arr es) (σ.set l .dead)) .mk)) .mk)
    |_=>False)
  | .lit v=>K (.lit v) σ
  | .arr v=>K (.arr v) σ
  |y=>K y σ):=by cases x<;>rfl
theorem ZJm {K:List AV->ZE->Prop}{k:Box K}:ZLE σ [] (hold K k)=(K [] σ):=rfl
theorem ZHx {x:AV}{r:List AV}{K:List AV->ZE->Prop}{k:Box K}:ZLE σ (x::r) (hold K k)=(ZHo σ x (hold (fun x' σ'=>ZLE σ' r (hold (fun r' σ''=>K (x'::r') σ'') .mk)) .mk)):=rfl
theorem ZQw {x:AV}:ZJ7 σ x (hold K k)=(match x with
  | .tup xs=>ZLE σ xs (hold (fun xs' σ'=>K (.tup xs') σ') .mk)
  | .lit v=>K (.lit v) σ
  | .arr v=>K (.arr v) σ
  |y=>ZHo σ y (hold K .mk)):=by cases x<;>rfl
theorem ZJo {K:List AV->Prop}{k:Box K}:ZDd P σ fr [] (hold K k)=(K []):=rfl
theorem ZJn {t:Nat}{r:List ResultVar}{K:List AV->Prop}{k:Box K}:ZDd P σ fr (.tmp t::r) (hold K k)=(ZDd P σ fr r (hold (fun xs=>K (lk fr t::xs)) .mk)):=rfl
theorem ZHy {a:Nat}{r:List ResultVar}{K:List AV->Prop}{k:Box K}:ZDd P σ fr (.cell a t::r) (hold K k)=(ZDA P t σ (lk fr a) (hold (fun x=>ZDd P σ fr r (hold (fun xs=>K (x::xs)) .mk)) .mk)):=rfl
theorem ZHz {place:Nat->Option (Nat×Nat)}{K:List AV->Prop}{k:Box K}:ZBZ place σ cs [] (hold K k)=(K cs):=rfl
theorem ZGl {place:Nat -> Option (Nat × Nat)}{x:AV}{rest:List (Nat × AV)}{K:List AV -> Prop}{k:Box K} : ZBZ place σ cs ((i, x) :: rest) (hold K k) = (match place i with
    |some (off,size)=>zF σ x (hold (fun new=>chk (new.length=size) (hold (wrE cs off new (hold (fun cs'=>ZBZ place σ cs' rest (hold K .mk)) .mk)) .mk)) .mk)
    |none=>False):=rfl
variable {ps:List (Nat×AV)}
theorem ZMy :ZB0 P t σ ps (hold K k)=(match Zm P t with
  |some ⟨.struct offs,_,z⟩=>chk ((∀p,p∈offs->p.2≠0)) (hold (chk (z≠[]) (hold (ZBZ (fun i=>offs[i]?) σ (z.map .lit) ps (hold (fun cs=>bfrz σ cs (hold (fun cs' σ'=>K (.agg cs') σ') .mk)) .mk)) .mk)) .mk)
  |some ⟨.array _ (_+1),_,z⟩=>chk (ps=[]) (hold (chk (z≠[]) (hold (K (.agg (z.map .lit)) σ) .mk)) .mk)
  |_=>False):=rfl
theorem ZQy {K:List AV->ZE->Prop}{k:Box K}:bfrz σ cs (hold K k)=(if σ.any isM=true then K cs σ else frz σ cs (hold K .mk)):=rfl
theorem ZPC {es:List (List AV)}{K:List (List AV)->ZE->Prop}{k:Box K}:bfrzs σ es (hold K k)=(if σ.any isK=true/\σ.any isP=true then K es σ else ZMj σ es (hold K .mk)):=rfl
theorem ZGV {es:List (List AV)}:isK (.elems n es)=decide (n=0):=by cases n<;>rfl
theorem ZGW :isK (.cells cs)=false:=rfl
theorem ZIm :isK .dead=false:=rfl
variable {xs:List AV}{vs:List Value}
theorem ZIl :isK (.pack xs vs)=false:=rfl
theorem ZGT {es:List (List AV)}:isP (.elems n es)=false:=rfl
theorem ZGU :isP (.cells cs)=false:=rfl
theorem ZIk :isP .dead=false:=rfl
theorem ZIj :isP (.pack xs vs)=true:=rfl
theorem ZK7 {es:List (List AV)}:isM (.elems n es)=decide (n=0):=by cases n<;>rfl
theorem ZK8 :isM (.cells cs)=false:=rfl
theorem ZMX :isM .dead=false:=rfl
theorem ZMW :isM (.pack xs vs)=true:=rfl
theorem ZJZ {es:List (List AV)}:ZQe (.elems n es)=false:=rfl
theorem ZJa :ZQe (.cells cs)=false:=rfl
theorem ZK6 :ZQe .dead=false:=rfl
theorem ZK5 :ZQe (.pack xs vs)=true:=rfl
theorem ZGn {sz:Nat}{K:List (List AV)->Prop}{k:Box K}:ZBz σ sz j [] (hold K k)=(K []):=rfl
theorem ZFc {sz:Nat}{x:AV}{rest:List (Nat×AV)}{K:List (List AV)->Prop}{k:Box K}:ZBz σ sz j ((i,x)::rest) (hold K k)=(chk (i=j) (hold (zF σ x (hold (fun e=>chk (e.length=sz) (hold (ZBz σ sz (j+1) rest (hold (fun es=>K (e.map (nzs σ)::es)) .mk)) .mk)) .mk)) .mk)):=rfl
theorem ZFd :ZAC P B t σ len ps (hold K k)=(match Zm P t with
  |some ⟨.slice sz _ z,_,_⟩=>chk (ps.length=len) (hold (chk (len*sz<=16777216) (hold (chk (len<=bd B) (hold (chk (z.length=sz) (hold (chk (sz≠0) (hold (ZBz σ sz 0 ps (hold (fun es=>bfrzs σ es (hold (fun es' σ'=>K (.own σ'.length len) (σ'++[.elems sz es'])) .mk)) .mk)) .mk)) .mk)) .mk)) .mk)) .mk)
  |_=>False):=rfl
theorem ZGj {l c:AV}:ZAO P B t σ l c (hold K k)=(match Zm P t,l,c with
  |some ⟨.slice sz bytes z,_,_⟩,.lit (.int _ n),.lit (.int _ n')=>chk (n=n') (hold (chk (0<=n) (hold (chk (n<=9223372036854775807) (hold (chk (bytes*n<=281474976710656) (hold (chk (n.toNat<=bd B) (hold (chk (z.length=sz) (hold (chk (sz≠0) (hold (K (.own σ.length n.toNat) (σ++[.elems sz (List.replicate n.toNat ((z.map .lit).map (nzs σ)))])) .mk)) .mk)) .mk)) .mk)) .mk)) .mk)) .mk)
  |_,_,_=>False):=rfl
theorem ZMr {x:Option AV}{d:Nat}{K:Nat->Prop}{k:Box K}:ZAh x d (hold K k)=(match x with
  |none=>K d
  |some (.lit (.int _ n))=>chk (0<=n) (hold (K n.toNat) .mk)
  |_=>False):=rfl
theorem ZMv {x:AV}{lo hi mx:Option AV}:ZBy P t σ x lo hi mx (hold K k)=(match x,mx with
  | .lit (.string s),none=>chk (P.underlying t=some .string) (hold (
    ZAh lo 0 (hold (fun l=>ZAh hi s.size (hold (fun h=>chk (l<=h) (hold (chk (h<=s.size) (hold (K (.lit (.string (s.extract l h))) σ) .mk)) .mk)) .mk)) .mk)) .mk)
  | .arr es,none=>match Zm P t with
    |some ⟨.slice sz _ _,_,_⟩=>chk (ZFX sz es) (hold (
      ZAh lo 0 (hold (fun l=>ZAh hi es.length (hold (fun h=>chk (l<=h) (hold (chk (h<=es.length) (hold (K (.arr ((es.drop l).take (h-l))) σ) .mk)) .mk)) .mk)) .mk)) .mk)
    |_=>False
  | .own l n,none=>match lo,Zm P t with
    |none,some ⟨.slice _ _ _,_,_⟩=>ZAh hi n (hold (fun h=>chk (h<=n) (hold (K (.pre l n h) σ) .mk)) .mk)
    |_,_=>False
  |_,_=>False):=rfl
theorem ZPB {x:AV}:ZB5 σ x=(match x with
  | .rptr _ _=>True
  | .ptr l _=>match σ[l]? with
    |some (.cells _)=>True
    |_=>False
  | .eptr l k _ _=>match σ[l]? with
    |some (.elems _ es)=>es.length=k/\es≠[]
    |_=>False
  |_=>False):=rfl
end
attribute [simp ↓] ZFr ZEV ZM2 ZL7 ZRk ZPt ZFJ ZJD ZHN
  ZQg ZMY ZQj ZR3 ZQk ZOr ZQh ZQi ZR4 ZL4 ZRg ZPp ZM5 ZSK ZRE ZRn ZMG ZLB ZJd ZHm ZHl ZQK ZPx ZMN ZL9 ZQJ ZPw ZOa ZOE ZRp ZRl ZOY ZOC ZGK ZF8 ZQL ZPy ZOU ZN8 ZJU ZJF ZOZ ZOD ZQI ZPv ZKw ZKQ ZJV ZJG ZHa ZHO ZOV ZN9 ZHc ZHQ ZHb ZHP ZOW ZOA ZOX ZOB ZKv ZKP ZKx ZKR ZQM ZPz ZOq ZOp ZJc ZJb ZOs ZMZ ZJf ZJe ZGY ZQ3 ZMz ZQ2 ZPO ZRI ZPX ZLp ZNE ZSM ZRH ZRJ ZSI ZPM ZGo ZQ4 ZPI ZJp ZPN ZQ1 ZLN ZJq ZH2 ZPJ ZH4 ZH3 ZPK ZPL ZLM ZSH ZM0 ZSF ZSG ZMt ZSC ZSB ZSD ZPD ZSA ZR9 ZMu ZGm ZGk ZMw ZMx ZQz ZMs ZLL ZQ0 ZSE ZPE ZLK ZJk ZJj ZHv ZQx ZJm ZHx ZQw ZJo ZJn ZHy ZHz ZGl ZMy ZQy ZPC ZGV ZGW ZIm ZIl ZGT ZGU ZIk ZIj ZGn ZFc ZFd ZGj ZMr ZMv ZPB
attribute [simp] ZI2 ZHA ZRN u8s ZBF
attribute [simp] ZGV ZGW ZIm ZIl ZGT ZGU ZIk ZIj ZK7 ZK8 ZMX ZMW ZJZ ZJa ZK6 ZK5 nzs
attribute [simp] nz AV.le AV.le.les ZMl ZEH Blk.le pack ZEg Blk.closed Zn ZMm AV.bnd AV.bnd.bnds ev ZBr lk AV.adv Sh.isAgg ZAT
variable {n:Nat}{v:Value}
theorem ZRA :zD n (.lit v)↔True:=by simp[zD]
theorem ZPS :zD n .junk↔True:=by simp[zD]
variable {es:List (List AV)}
theorem ZRB :zD n (.arr es)↔True:=by simp[zD]
variable {e:List AV}{o:Nat}
theorem ZPR :zD n (.rptr e o)↔True:=by simp[zD]
variable {l i k:Nat}
theorem ZQ8 :zD n (.pre l i k)↔l<n:=by simp[zD]
theorem ZQ9 :zD n (.own l k)↔l<n:=by simp[zD]
theorem ZQ7 :zD n (.ptr l k)↔l<n:=by simp[zD]
theorem ZPT :zD n (.eptr l k i o)↔l<n:=by simp[zD]
variable {cs:List AV}
theorem ZRC :zD n (.agg cs)↔zD.closeds n cs:=by simp[zD]
theorem ZQ6 :zD n (.tup cs)↔zD.closeds n cs:=by simp[zD]
variable {xs ys:List AV}
theorem ZSJ {f:Fn}:zD n (.fn f xs ys)↔zD.closeds n xs/\zD.closeds n ys:=by simp[zD]
theorem ZPP :zD.closeds n []↔True:=by simp[zD.closeds]
variable {r:List AV}
theorem ZM1 {x:AV}:zD.closeds n (x::r)↔x.closed n/\zD.closeds n r:=by simp[zD.closeds]
theorem ZP5 :zE (.lit v)↔True:=by simp[zE]
theorem ZOH :zE .junk↔True:=by simp[zE]
theorem ZP6 :zE (.arr es)↔True:=by simp[zE]
theorem ZOG :zE (.rptr e o)↔True:=by simp[zE]
theorem ZP3 :zE (.pre l i k)↔False:=by simp[zE]
theorem ZP4 :zE (.own l k)↔False:=by simp[zE]
theorem ZP2 :zE (.ptr l k)↔False:=by simp[zE]
theorem ZP7 :zE (.agg cs)↔zE.pures cs:=by simp[zE]
theorem ZP1 :zE (.tup cs)↔zE.pures cs:=by simp[zE]
theorem ZRm {f:Fn}:zE (.fn f xs ys)↔zE.pures xs/\zE.pures ys:=by simp[zE]
theorem ZOF :zE.pures []↔True:=by simp[zE.pures]
theorem ZMA {x:AV}:zE.pures (x::r)↔x.pure/\zE.pures r:=by simp[zE.pures]
theorem ZML {b:Bool}:ZEL (.bool b)↔True:=by simp[ZEL]
theorem ZOQ {k:IntKind}{b:Int}:ZEL (.int k b)↔True:=by simp[ZEL]
theorem ZJQ {b:ByteArray}:ZEL (.string b)↔True:=by simp[ZEL]
variable {a:Option Addr}
theorem ZKq {c:Nat}:ZEL (.slice a l c)↔True:=by simp[ZEL]
theorem ZHY :ZEL (.pointer a)↔True:=by simp[ZEL]
theorem ZOP {a:Option Nat}:ZEL (.map a)↔True:=by simp[ZEL]
theorem ZHZ :ZEL .nilFunc↔True:=by simp[ZEL]
variable {σ:ZE}
theorem ZQF :ok1 σ (.lit v)↔ZEL v:=by simp[ok1]
theorem ZQG :ok1 σ (.arr es)↔True:=by simp[ok1]
theorem ZOS :ok1 σ (.rptr e o)↔True:=by simp[ok1]
theorem ZRo {f:Fn}:ok1 σ (.fn f xs ys)↔True:=by simp[ok1]
theorem ZQE :ok1 σ (.own l n)=(match σ[l]? with|some (.elems _ es)=>es.length=n|_=>False):=rfl
theorem ZQD :ok1 σ (.ptr l n)=(match σ[l]? with|some (.cells _)=>True|_=>False):=rfl
theorem ZOT :ok1 σ (.eptr l n i o)=(match σ[l]? with|some (.elems _ es)=>es.length=n/\es≠[]|_=>False):=rfl
theorem ZOR :Zl σ []↔True:=by simp[Zl]
theorem ZMM {x:AV}:Zl σ (x::r)↔ok1 σ x/\Zl σ r:=by simp[Zl]
attribute [simp] ZQ8 ZP3 ZRA ZPS ZRB ZPR ZQ9 ZQ7 ZPT ZRC ZQ6 ZSJ ZPP ZM1 ZP5 ZOH ZP6 ZOG ZP4 ZP2 ZP7 ZP1 ZRm ZOF ZMA ZML ZOQ ZJQ ZKq ZHY ZOP ZHZ ZQF ZQG ZOS ZRo ZQE ZQD ZOT ZOR ZMM
end Go.Vl
