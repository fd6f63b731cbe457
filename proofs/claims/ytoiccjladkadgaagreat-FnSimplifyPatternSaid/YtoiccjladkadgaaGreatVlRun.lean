/- A part of the proof. -/
import Derived.Test.YtoiccjladkadgaaGreatVlStep
set_option linter.all false
namespace Go.Vl
open Go Go.RowKit
section
variable {P : Program} {B nb N : Nat}
theorem ZOg {Q:Exit->ASt->Prop}{q:Box Q}{st:ASt}:awp P B nb N .skip st (hold Q q)=(Q .normal st):=rfl
theorem ZKw {Q:Exit->ASt->Prop}{q:Box Q}{st:ASt}{id:Nat}{l:List Oper}:awp P B nb N (.region id (List.toArray l) false) st (hold Q q)=(ZG1 P B N (hold (List.toArray l) .mk) l st (hold (Q .normal) .mk)):=by simp only[awp,Bool.false_eq_true,if_false,hold]
theorem ZOj {Q:Exit->ASt->Prop}{q:Box Q}{st:ASt}{id:Nat}{ops:Array Oper}:awp P B nb N (.region id ops true) st (hold Q q)=(ADraw P B nb N (hold ops .mk) st (hold (Q .normal) .mk)):=by simp only[awp,if_true,hold]
theorem ZPz {Q:Exit->ASt->Prop}{q:Box Q}{st:ASt}{a b:Code}:awp P B nb N (.seq a b) st (hold Q q)=(awp P B nb N a st (hold (ZPN P B nb N b Q) .mk)):=by simp only[hold];rw[awp];congr
theorem ZOk {Q : Exit -> ASt -> Prop} {q : Box Q}{st : ASt}{c : Operand} {a b : Code} : awp P B nb N (.cond c a b) st (hold Q q) = (match ev st.fr c with
    | .lit (.bool v)=>abr (v=true) (hold (awp P B nb N a st (hold Q .mk)) .mk) (hold (awp P B nb N b st (hold Q .mk)) .mk)
    |_=>False):=by
  simp only[awp,hold]
  generalize ev st.fr c=v
  cases v<;>try rfl
  next v=>cases v<;>first|exact ZG3.symm|rfl
theorem ZMz {Q:Exit->ASt->Prop}{q:Box Q}{st:ASt}{id:Nat}{c:Code}:awp P B nb N (.block id c) st (hold Q q)=(awp P B nb N c st (hold (ZHc id Q) .mk)):=by simp only[hold];rw[awp];congr
theorem ZOh {Q:Exit->ASt->Prop}{q:Box Q}{st:ASt}{c:Code}:awp P B nb N (.loop c) st (hold Q q)=(ALoop P B nb N (hold c .mk) st (hold Q .mk)):=rfl
theorem ZOi {Q:Exit->ASt->Prop}{q:Box Q}{st:ASt}{i:Nat}:awp P B nb N (.exit i) st (hold Q q)=(Q (.exit i) st):=rfl
theorem ZP0 {Q:Exit->ASt->Prop}{q:Box Q}{st:ASt}:awp P B nb N .ret st (hold Q q)=(Q .ret st):=rfl
theorem ZKW {c:Code}{bc:Box c}{Q:Exit->ASt->Prop}{bQ:Box Q}{st:ASt}:ZFD P B nb N (hold c bc) (hold Q bQ) .normal st=Again P B nb N (hold c .mk) (hold Q .mk) st:=rfl
theorem ZPf {c:Code}{bc:Box c}{Q:Exit->ASt->Prop}{bQ:Box Q}{st:ASt}:ZFD P B nb N (hold c bc) (hold Q bQ) .ret st=Leave B nb N (hold Q .mk) .ret st:=rfl
theorem ZNt {c:Code}{bc:Box c}{Q:Exit->ASt->Prop}{bQ:Box Q}{i:Nat}{st:ASt}:ZFD P B nb N (hold c bc) (hold Q bQ) (.exit i) st=Leave B nb N (hold Q .mk) (.exit i) st:=rfl
theorem ZKU {Q:Exit->ASt->Prop}{st:ASt}{b:Code}:ZPN P B nb N b Q .normal st=(awp P B nb N b st (hold Q .mk)):=rfl
theorem ZPb {Q:Exit->ASt->Prop}{st:ASt}{b:Code}:ZPN P B nb N b Q .ret st=(Q .ret st):=rfl
theorem ZNp {Q:Exit->ASt->Prop}{st:ASt}{b:Code}{i:Nat}:ZPN P B nb N b Q (.exit i) st=(Q (.exit i) st):=rfl
theorem ZLQ {Q:Exit->ASt->Prop}{st:ASt}{i:Nat}:ZHc i Q .normal st=(Q .normal st):=rfl
theorem ZQH {Q:Exit->ASt->Prop}{st:ASt}{i:Nat}:ZHc i Q .ret st=(Q .ret st):=rfl
theorem ZPE {Q:Exit->ASt->Prop}{st:ASt}{i j:Nat}:ZHc i Q (.exit j) st=(if j=i then Q .normal st else Q (.exit j) st):=rfl
theorem ZPi {fn:Func}{K:AV->ZA->Prop}{st:ASt}:ZAV P fn K .ret st=(ZBz P st.σ st.fr fn.results.toList (hold (fun xs=>ZK8 st.σ (pack xs) (hold K .mk)) .mk)):=rfl
theorem ZKe {fn:Func}{K:AV->ZA->Prop}{st:ASt}:ZAV P fn K .normal st=(ZBz P st.σ st.fr fn.results.toList (hold (fun xs=>ZK8 st.σ (pack xs) (hold K .mk)) .mk)):=rfl
theorem ZJq {K:ASt->Prop}{k:Box K}{st:ASt}{ops:Array Oper}:ZG1 P B N ops [] st (hold K k)=(K st):=rfl
theorem ZIJ {K:ASt->Prop}{k:Box K}{st:ASt}{ops:Array Oper}{bo:Box ops}{o:Oper}{rest:List Oper}:ZG1 P B N (hold ops bo) (o::rest) st (hold K k)=(ZAU (hold ops .mk) st.fr o.guard (hold (aop P B N o st (hold (fun st'=>ZG1 P B N (hold ops .mk) rest st' (hold K .mk)) .mk)) .mk) (hold (ZAJ N o.dst (.lit undef) st.fr st.σ (hold (fun st'=>ZG1 P B N (hold ops .mk) rest st' (hold K .mk)) .mk)) .mk)):=rfl
theorem ZGe {ops:Array Oper}{bo:Box ops}{fr:Frm}{y n:Prop}{b:Box y}{b':Box n}:ZAU (hold ops bo) fr none (hold y b) (hold n b')=(y):=rfl
def ZIq (w:Bool)(v:AV)(y n:Prop):Prop:=match v with
  | .lit (.bool b)=>abr (b=w) (hold y .mk) (hold n .mk)
  | .lit _=>n
  |_=>False
theorem ZHo {w b:Bool}{y n:Prop}{k:Box y}{k':Box n}:ZIq w (.lit (.bool b)) (hold y k) (hold n k')=abr (b=w) (hold y .mk) (hold n .mk):=rfl
theorem ZF8 {w:Bool}{y n:Prop}{k:Box y}{k':Box n}:ZIq w (.lit undef) (hold y k) (hold n k')=n:=rfl
theorem ZGd {ops : Array Oper} {bo : Box ops}{fr : Frm} {j : Nat} {w : Bool} {y n : Prop} {b : Box y} {b' : Box n} : ZAU (hold ops bo) fr (some (j, w)) (hold y b) (hold n b') = (match (ops[j]?).bind (·.dst) with
      |none=>False
      |some d=>ZIq w (lk fr d) (hold y .mk) (hold n .mk)):=by
  simp only[ZAU,hold]
  generalize(ops[j]?).bind (fun x=>x.dst)=od
  cases od with
  |none=>rfl
  |some d=>
    simp only[]
    generalize lk fr d=v
    cases v<;>try rfl
    next v=>cases v<;>first|(simp only[yb,ZIq,Option.some.injEq];exact ZG3.symm)|(simp[yb,ZIq,hold];done)|rfl
theorem ZOK {x:Operand}{d:Option Nat}{t:TypeId}{p:String}{es:Array Edge}{g:Option (Nat×Bool)}{st:ASt}{K:ASt->Prop}{k:Box K}:aop P B N ⟨d,.move x,t,p,es,g⟩ st (hold K k)=(aef P B (.move x) (ev st.fr) st.σ (hold (fun r σ'=>ZAJ N d r st.fr σ' (hold K .mk)) .mk)):=rfl
theorem ZNx {x:Operand}{fr:Frm}{σ:ZA}{K:AV->Prop}{k:Box K}:ZCs P B (.move x) fr σ (hold K k)=(aef P B (.move x) (ev fr) σ (hold (fun r σ'=>chk (σ'=σ) (hold (K r) .mk)) .mk)):=rfl
theorem ZKk {x:Operand}{d:Option Nat}{t:TypeId}{p:String}{es:Array Edge}{g:Option (Nat×Bool)}{st:ASt}{K:ASt->Prop}{k:Box K}:aop P B N ⟨d,.assign x,t,p,es,g⟩ st (hold K k)=(aef P B (.assign x) (ev st.fr) st.σ (hold (fun r σ'=>ZAJ N d r st.fr σ' (hold K .mk)) .mk)):=rfl
theorem ZKY {x:Operand}{fr:Frm}{σ:ZA}{K:AV->Prop}{k:Box K}:ZCs P B (.assign x) fr σ (hold K k)=(aef P B (.assign x) (ev fr) σ (hold (fun r σ'=>chk (σ'=σ) (hold (K r) .mk)) .mk)):=rfl
theorem ZOJ {c a b:Operand}{d:Option Nat}{t:TypeId}{p:String}{es:Array Edge}{g:Option (Nat×Bool)}{st:ASt}{K:ASt->Prop}{k:Box K}:aop P B N ⟨d,.pick c a b,t,p,es,g⟩ st (hold K k)=(aef P B (.pick c a b) (ev st.fr) st.σ (hold (fun r σ'=>ZAJ N d r st.fr σ' (hold K .mk)) .mk)):=rfl
theorem ZNw {c a b:Operand}{fr:Frm}{σ:ZA}{K:AV->Prop}{k:Box K}:ZCs P B (.pick c a b) fr σ (hold K k)=(aef P B (.pick c a b) (ev fr) σ (hold (fun r σ'=>chk (σ'=σ) (hold (K r) .mk)) .mk)):=rfl
theorem ZMl {e:TypeId}{d:Option Nat}{t:TypeId}{p:String}{es:Array Edge}{g:Option (Nat×Bool)}{st:ASt}{K:ASt->Prop}{k:Box K}:aop P B N ⟨d,.alloc e,t,p,es,g⟩ st (hold K k)=(aef P B (.alloc e) (ev st.fr) st.σ (hold (fun r σ'=>ZAJ N d r st.fr σ' (hold K .mk)) .mk)):=rfl
theorem ZMR {e:TypeId}{fr:Frm}{σ:ZA}{K:AV->Prop}{k:Box K}:ZCs P B (.alloc e) fr σ (hold K k)=(aef P B (.alloc e) (ev fr) σ (hold (fun r σ'=>chk (σ'=σ) (hold (K r) .mk)) .mk)):=rfl
theorem ZPk {e:TypeId}{x:Operand}{d:Option Nat}{t:TypeId}{p:String}{es:Array Edge}{g:Option (Nat×Bool)}{st:ASt}{K:ASt->Prop}{k:Box K}:aop P B N ⟨d,.box e x,t,p,es,g⟩ st (hold K k)=(aef P B (.box e x) (ev st.fr) st.σ (hold (fun r σ'=>ZAJ N d r st.fr σ' (hold K .mk)) .mk)):=rfl
theorem ZPg {e:TypeId}{x:Operand}{fr:Frm}{σ:ZA}{K:AV->Prop}{k:Box K}:ZCs P B (.box e x) fr σ (hold K k)=(aef P B (.box e x) (ev fr) σ (hold (fun r σ'=>chk (σ'=σ) (hold (K r) .mk)) .mk)):=rfl
theorem ZMj {ty:TypeId}{parts:Array (Nat×Operand)}{d:Option Nat}{t:TypeId}{p:String}{es:Array Edge}{g:Option (Nat×Bool)}{st:ASt}{K:ASt->Prop}{k:Box K}:aop P B N ⟨d,.build ty parts,t,p,es,g⟩ st (hold K k)=(aef P B (.build ty parts) (ev st.fr) st.σ (hold (fun r σ'=>ZAJ N d r st.fr σ' (hold K .mk)) .mk)):=rfl
theorem ZMP {ty:TypeId}{parts:Array (Nat×Operand)}{fr:Frm}{σ:ZA}{K:AV->Prop}{k:Box K}:ZCs P B (.build ty parts) fr σ (hold K k)=(aef P B (.build ty parts) (ev fr) σ (hold (fun r σ'=>chk (σ'=σ) (hold (K r) .mk)) .mk)):=rfl
theorem ZFS {ty:TypeId}{len:Nat}{parts:Array (Nat×Operand)}{d:Option Nat}{t:TypeId}{p:String}{es:Array Edge}{g:Option (Nat×Bool)}{st:ASt}{K:ASt->Prop}{k:Box K}:aop P B N ⟨d,.buildSlice ty len parts,t,p,es,g⟩ st (hold K k)=(aef P B (.buildSlice ty len parts) (ev st.fr) st.σ (hold (fun r σ'=>ZAJ N d r st.fr σ' (hold K .mk)) .mk)):=rfl
theorem ZFI {ty:TypeId}{len:Nat}{parts:Array (Nat×Operand)}{fr:Frm}{σ:ZA}{K:AV->Prop}{k:Box K}:ZCs P B (.buildSlice ty len parts) fr σ (hold K k)=(aef P B (.buildSlice ty len parts) (ev fr) σ (hold (fun r σ'=>chk (σ'=σ) (hold (K r) .mk)) .mk)):=rfl
theorem ZOL {ty:TypeId}{x:Operand}{d:Option Nat}{t:TypeId}{p:String}{es:Array Edge}{g:Option (Nat×Bool)}{st:ASt}{K:ASt->Prop}{k:Box K}:aop P B N ⟨d,.load ty x,t,p,es,g⟩ st (hold K k)=(aef P B (.load ty x) (ev st.fr) st.σ (hold (fun r σ'=>ZAJ N d r st.fr σ' (hold K .mk)) .mk)):=rfl
theorem ZNy {ty:TypeId}{x:Operand}{fr:Frm}{σ:ZA}{K:AV->Prop}{k:Box K}:ZCs P B (.load ty x) fr σ (hold K k)=(aef P B (.load ty x) (ev fr) σ (hold (fun r σ'=>chk (σ'=σ) (hold (K r) .mk)) .mk)):=rfl
theorem ZMg {ty:TypeId}{x v:Operand}{d:Option Nat}{t:TypeId}{p:String}{es:Array Edge}{g:Option (Nat×Bool)}{st:ASt}{K:ASt->Prop}{k:Box K}:aop P B N ⟨d,.store ty x v,t,p,es,g⟩ st (hold K k)=(aef P B (.store ty x v) (ev st.fr) st.σ (hold (fun r σ'=>ZAJ N d r st.fr σ' (hold K .mk)) .mk)):=rfl
theorem ZMM {ty:TypeId}{x v:Operand}{fr:Frm}{σ:ZA}{K:AV->Prop}{k:Box K}:ZCs P B (.store ty x v) fr σ (hold K k)=(aef P B (.store ty x v) (ev fr) σ (hold (fun r σ'=>chk (σ'=σ) (hold (K r) .mk)) .mk)):=rfl
theorem ZH9 {x:Operand}{d:Option Nat}{t:TypeId}{p:String}{es:Array Edge}{g:Option (Nat×Bool)}{st:ASt}{K:ASt->Prop}{k:Box K}:aop P B N ⟨d,.nilCheck x,t,p,es,g⟩ st (hold K k)=(aef P B (.nilCheck x) (ev st.fr) st.σ (hold (fun r σ'=>ZAJ N d r st.fr σ' (hold K .mk)) .mk)):=rfl
theorem ZHy {x:Operand}{fr:Frm}{σ:ZA}{K:AV->Prop}{k:Box K}:ZCs P B (.nilCheck x) fr σ (hold K k)=(aef P B (.nilCheck x) (ev fr) σ (hold (fun r σ'=>chk (σ'=σ) (hold (K r) .mk)) .mk)):=rfl
theorem ZMk {op:BinOp}{ty:TypeId}{x y:Operand}{ty2:TypeId}{d:Option Nat}{t:TypeId}{p:String}{es:Array Edge}{g:Option (Nat×Bool)}{st:ASt}{K:ASt->Prop}{k:Box K}:aop P B N ⟨d,.binOp op ty x y ty2,t,p,es,g⟩ st (hold K k)=(aef P B (.binOp op ty x y ty2) (ev st.fr) st.σ (hold (fun r σ'=>ZAJ N d r st.fr σ' (hold K .mk)) .mk)):=rfl
theorem ZMQ {op:BinOp}{ty:TypeId}{x y:Operand}{ty2:TypeId}{fr:Frm}{σ:ZA}{K:AV->Prop}{k:Box K}:ZCs P B (.binOp op ty x y ty2) fr σ (hold K k)=(aef P B (.binOp op ty x y ty2) (ev fr) σ (hold (fun r σ'=>chk (σ'=σ) (hold (K r) .mk)) .mk)):=rfl
theorem ZOI {op:UnOp}{ty:TypeId}{x:Operand}{d:Option Nat}{t:TypeId}{p:String}{es:Array Edge}{g:Option (Nat×Bool)}{st:ASt}{K:ASt->Prop}{k:Box K}:aop P B N ⟨d,.unOp op ty x,t,p,es,g⟩ st (hold K k)=(aef P B (.unOp op ty x) (ev st.fr) st.σ (hold (fun r σ'=>ZAJ N d r st.fr σ' (hold K .mk)) .mk)):=rfl
theorem ZNv {op:UnOp}{ty:TypeId}{x:Operand}{fr:Frm}{σ:ZA}{K:AV->Prop}{k:Box K}:ZCs P B (.unOp op ty x) fr σ (hold K k)=(aef P B (.unOp op ty x) (ev fr) σ (hold (fun r σ'=>chk (σ'=σ) (hold (K r) .mk)) .mk)):=rfl
theorem ZJX {ty ty2:TypeId}{x:Operand}{d:Option Nat}{t:TypeId}{p:String}{es:Array Edge}{g:Option (Nat×Bool)}{st:ASt}{K:ASt->Prop}{k:Box K}:aop P B N ⟨d,.convert ty ty2 x,t,p,es,g⟩ st (hold K k)=(aef P B (.convert ty ty2 x) (ev st.fr) st.σ (hold (fun r σ'=>ZAJ N d r st.fr σ' (hold K .mk)) .mk)):=rfl
theorem ZI4 {ty ty2:TypeId}{x:Operand}{fr:Frm}{σ:ZA}{K:AV->Prop}{k:Box K}:ZCs P B (.convert ty ty2 x) fr σ (hold K k)=(aef P B (.convert ty ty2 x) (ev fr) σ (hold (fun r σ'=>chk (σ'=σ) (hold (K r) .mk)) .mk)):=rfl
theorem ZIA {fn:Fn}{first captured:Array Operand}{d:Option Nat}{t:TypeId}{p:String}{es:Array Edge}{g:Option (Nat×Bool)}{st:ASt}{K:ASt->Prop}{k:Box K}:aop P B N ⟨d,.makeFunc fn first captured,t,p,es,g⟩ st (hold K k)=(aef P B (.makeFunc fn first captured) (ev st.fr) st.σ (hold (fun r σ'=>ZAJ N d r st.fr σ' (hold K .mk)) .mk)):=rfl
theorem ZHz {fn:Fn}{first captured:Array Operand}{fr:Frm}{σ:ZA}{K:AV->Prop}{k:Box K}:ZCs P B (.makeFunc fn first captured) fr σ (hold K k)=(aef P B (.makeFunc fn first captured) (ev fr) σ (hold (fun r σ'=>chk (σ'=σ) (hold (K r) .mk)) .mk)):=rfl
theorem ZGS {ty:TypeId}{len cap:Operand}{d:Option Nat}{t:TypeId}{p:String}{es:Array Edge}{g:Option (Nat×Bool)}{st:ASt}{K:ASt->Prop}{k:Box K}:aop P B N ⟨d,.makeSlice ty len cap,t,p,es,g⟩ st (hold K k)=(aef P B (.makeSlice ty len cap) (ev st.fr) st.σ (hold (fun r σ'=>ZAJ N d r st.fr σ' (hold K .mk)) .mk)):=rfl
theorem ZGH {ty:TypeId}{len cap:Operand}{fr:Frm}{σ:ZA}{K:AV->Prop}{k:Box K}:ZCs P B (.makeSlice ty len cap) fr σ (hold K k)=(aef P B (.makeSlice ty len cap) (ev fr) σ (hold (fun r σ'=>chk (σ'=σ) (hold (K r) .mk)) .mk)):=rfl
theorem ZMh {ty:TypeId}{x:Operand}{low high mx:Option Operand}{d:Option Nat}{t:TypeId}{p:String}{es:Array Edge}{g:Option (Nat×Bool)}{st:ASt}{K:ASt->Prop}{k:Box K}:aop P B N ⟨d,.slice ty x low high mx,t,p,es,g⟩ st (hold K k)=(aef P B (.slice ty x low high mx) (ev st.fr) st.σ (hold (fun r σ'=>ZAJ N d r st.fr σ' (hold K .mk)) .mk)):=rfl
theorem ZMN {ty:TypeId}{x:Operand}{low high mx:Option Operand}{fr:Frm}{σ:ZA}{K:AV->Prop}{k:Box K}:ZCs P B (.slice ty x low high mx) fr σ (hold K k)=(aef P B (.slice ty x low high mx) (ev fr) σ (hold (fun r σ'=>chk (σ'=σ) (hold (K r) .mk)) .mk)):=rfl
theorem ZGU {ty:TypeId}{x:Operand}{f:Nat}{d:Option Nat}{t:TypeId}{p:String}{es:Array Edge}{g:Option (Nat×Bool)}{st:ASt}{K:ASt->Prop}{k:Box K}:aop P B N ⟨d,.fieldAddr ty x f,t,p,es,g⟩ st (hold K k)=(aef P B (.fieldAddr ty x f) (ev st.fr) st.σ (hold (fun r σ'=>ZAJ N d r st.fr σ' (hold K .mk)) .mk)):=rfl
theorem ZGJ {ty:TypeId}{x:Operand}{f:Nat}{fr:Frm}{σ:ZA}{K:AV->Prop}{k:Box K}:ZCs P B (.fieldAddr ty x f) fr σ (hold K k)=(aef P B (.fieldAddr ty x f) (ev fr) σ (hold (fun r σ'=>chk (σ'=σ) (hold (K r) .mk)) .mk)):=rfl
theorem ZGT {ty:TypeId}{x i:Operand}{d:Option Nat}{t:TypeId}{p:String}{es:Array Edge}{g:Option (Nat×Bool)}{st:ASt}{K:ASt->Prop}{k:Box K}:aop P B N ⟨d,.indexAddr ty x i,t,p,es,g⟩ st (hold K k)=(aef P B (.indexAddr ty x i) (ev st.fr) st.σ (hold (fun r σ'=>ZAJ N d r st.fr σ' (hold K .mk)) .mk)):=rfl
theorem ZGI {ty:TypeId}{x i:Operand}{fr:Frm}{σ:ZA}{K:AV->Prop}{k:Box K}:ZCs P B (.indexAddr ty x i) fr σ (hold K k)=(aef P B (.indexAddr ty x i) (ev fr) σ (hold (fun r σ'=>chk (σ'=σ) (hold (K r) .mk)) .mk)):=rfl
theorem ZMi {ty:TypeId}{x i:Operand}{d:Option Nat}{t:TypeId}{p:String}{es:Array Edge}{g:Option (Nat×Bool)}{st:ASt}{K:ASt->Prop}{k:Box K}:aop P B N ⟨d,.index ty x i,t,p,es,g⟩ st (hold K k)=(aef P B (.index ty x i) (ev st.fr) st.σ (hold (fun r σ'=>ZAJ N d r st.fr σ' (hold K .mk)) .mk)):=rfl
theorem ZMO {ty:TypeId}{x i:Operand}{fr:Frm}{σ:ZA}{K:AV->Prop}{k:Box K}:ZCs P B (.index ty x i) fr σ (hold K k)=(aef P B (.index ty x i) (ev fr) σ (hold (fun r σ'=>chk (σ'=σ) (hold (K r) .mk)) .mk)):=rfl
theorem ZJW {x:Operand}{i:Nat}{d:Option Nat}{t:TypeId}{p:String}{es:Array Edge}{g:Option (Nat×Bool)}{st:ASt}{K:ASt->Prop}{k:Box K}:aop P B N ⟨d,.extract x i,t,p,es,g⟩ st (hold K k)=(aef P B (.extract x i) (ev st.fr) st.σ (hold (fun r σ'=>ZAJ N d r st.fr σ' (hold K .mk)) .mk)):=rfl
theorem ZI3 {x:Operand}{i:Nat}{fr:Frm}{σ:ZA}{K:AV->Prop}{k:Box K}:ZCs P B (.extract x i) fr σ (hold K k)=(aef P B (.extract x i) (ev fr) σ (hold (fun r σ'=>chk (σ'=σ) (hold (K r) .mk)) .mk)):=rfl
theorem ZJY {bi:Builtin}{args:Array Operand}{ts:Array TypeId}{d:Option Nat}{t:TypeId}{p:String}{es:Array Edge}{g:Option (Nat×Bool)}{st:ASt}{K:ASt->Prop}{k:Box K}:aop P B N ⟨d,.call {callee:=.builtin bi,args:=args,argTypes:=ts},t,p,es,g⟩ st (hold K k)=(aef P B (.call {callee:=.builtin bi,args:=args,argTypes:=ts}) (ev st.fr) st.σ (hold (fun r σ'=>ZAJ N d r st.fr σ' (hold K .mk)) .mk)):=rfl
theorem ZI5 {bi:Builtin}{args:Array Operand}{ts:Array TypeId}{fr:Frm}{σ:ZA}{K:AV->Prop}{k:Box K}:ZCs P B (.call {callee:=.builtin bi,args:=args,argTypes:=ts}) fr σ (hold K k)=(aef P B (.call {callee:=.builtin bi,args:=args,argTypes:=ts}) (ev fr) σ (hold (fun r σ'=>chk (σ'=σ) (hold (K r) .mk)) .mk)):=rfl
theorem ZOM {f:Operand}{args:Array Operand}{ts:Array TypeId}{d:Option Nat}{t:TypeId}{p:String}{es:Array Edge}{g:Option (Nat×Bool)}{st:ASt}{K:ASt->Prop}{k:Box K}:aop P B N ⟨d,.call {callee:=.value f,args:=args,argTypes:=ts},t,p,es,g⟩ st (hold K k)=(ZFz P B (ev st.fr f) (args.toList.map (ev st.fr)) st.σ (hold (fun r σ'=>ZAJ N d r st.fr σ' (hold K .mk)) .mk)):=rfl
theorem ZNz {f:Operand}{args:Array Operand}{ts:Array TypeId}{fr:Frm}{σ:ZA}{K:AV->Prop}{k:Box K}:ZCs P B (.call {callee:=.value f,args:=args,argTypes:=ts}) fr σ (hold K k)=(PCall P B (ev fr f) (args.toList.map (ev fr)) (hold K .mk)):=rfl
theorem ZMy {f : AV} {args : List AV} {σ : ZA}{K : AV -> ZA -> Prop} {k : Box K} : ZFz P B f args σ (hold K k) = (match f with
    | .fn (.func i) first cap=>ACall P B i (first++args++cap) σ (hold K .mk)
    |_=>False):=by
  cases f<;>try rfl
theorem ZMx {f : AV} {args : List AV}{K : AV -> Prop} {k : Box K} : PCall P B f args (hold K k) = (match f with
    | .fn (.func i) first cap=>ZDs P B i (first++args++cap) (hold K .mk)
    |_=>False):=by
  cases f<;>try rfl
theorem ZII {r:AV}{fr:Frm}{σ:ZA}{K:ASt->Prop}{k:Box K}:ZAJ N none r fr σ (hold K k)=(K ⟨fr,σ⟩):=rfl
theorem ZIH {d:Nat}{r:AV}{fr:Frm}{σ:ZA}{K:ASt->Prop}{k:Box K}(h:d<N):ZAJ N (some d) r fr σ (hold K k)=K ⟨(d,r)::fr,σ⟩:=by simp[ZAJ,hold,h]
theorem ZM0 {ops:Array Oper}{fr:Frm}{σ:ZA}{K:Frm->Prop}{k:Box K}:aP P B N ops [] fr σ (hold K k)=(K fr):=rfl
theorem ZKx {ops:Array Oper}{bo:Box ops}{o:Oper}{rest:List Oper}{fr:Frm}{σ:ZA}{K:Frm->Prop}{k:Box K}:aP P B N (hold ops bo) (o::rest) fr σ (hold K k)=(ZAU (hold ops .mk) fr o.guard (hold (ZCs P B o.op fr σ (hold (fun r=>ZEQ N o.dst (hold (aP P B N (hold ops .mk) rest (ZAK o.dst r fr) σ (hold K .mk)) .mk)) .mk)) .mk) (hold (ZEQ N o.dst (hold (aP P B N (hold ops .mk) rest (ZAK o.dst (.lit undef) fr) σ (hold K .mk)) .mk)) .mk)):=by rw[aP];rfl
theorem ZIL {K:Prop}{k:Box K}:ZEQ N none (hold K k)=(K):=by simp[ZEQ,dOk,hold]
theorem ZIK {d:Nat}{K:Prop}{k:Box K}(h:d<N):ZEQ N (some d) (hold K k)=K:=by simp[ZEQ,dOk,hold,h]
theorem ZFd {α:Type}{l:List α}:(List.toArray l).toList=(l):=rfl
theorem ZO3 {x:Operand}{ρ:Operand->AV}{σ:ZA}{K:AV->ZA->Prop}{k:Box K}:aef P B (.move x) ρ σ (hold K k)=(K (ρ x) σ):=rfl
theorem ZLK {x:Operand}{ρ:Operand->AV}{σ:ZA}{K:AV->ZA->Prop}{k:Box K}:aef P B (.assign x) ρ σ (hold K k)=(K (ρ x) σ):=rfl
theorem ZO2 {c a b : Operand}{ρ : Operand -> AV} {σ : ZA}{K : AV -> ZA -> Prop} {k : Box K} : aef P B (.pick c a b) ρ σ (hold K k) = (match ρ c with
    | .lit (.bool v)=>abr (v=true) (hold (K (ρ a) σ) .mk) (hold (K (ρ b) σ) .mk)
    |_=>False):=by
  simp only[aef,hold]
  generalize ρ c=v
  cases v<;>try rfl
  next v=>cases v<;>first|(rename_i v;cases v<;>simp[abr];done)|rfl
theorem ZNT {t : TypeId}{ρ : Operand -> AV} {σ : ZA}{K : AV -> ZA -> Prop} {k : Box K} : aef P B (.alloc t) ρ σ (hold K k) = (match Zu P t with
    |some i=>chk (i.zero≠[]) (hold (K (.ptr σ.length 0) (σ++[.cells (i.zero.map .lit)])) .mk)
    |none=>False):=rfl
theorem ZQE {t:TypeId}{x:Operand}{ρ:Operand->AV}{σ:ZA}{K:AV->ZA->Prop}{k:Box K}:aef P B (.box t x) ρ σ (hold K k)=(AV.cellsK σ (ρ x) (hold (fun cs=>K (.ptr σ.length 0) (σ++[.cells cs])) .mk)):=rfl
theorem ZNR {t:TypeId}{parts:Array (Nat×Operand)}{ρ:Operand->AV}{σ:ZA}{K:AV->ZA->Prop}{k:Box K}:aef P B (.build t parts) ρ σ (hold K k)=(ZBj P t σ (parts.toList.map fun p=>(p.1,ρ p.2)) (hold K .mk)):=rfl
theorem ZFo {t:TypeId}{len:Nat}{parts:Array (Nat×Operand)}{ρ:Operand->AV}{σ:ZA}{K:AV->ZA->Prop}{k:Box K}:aef P B (.buildSlice t len parts) ρ σ (hold K k)=(Zz P B t σ len (parts.toList.map fun p=>(p.1,ρ p.2)) (hold K .mk)):=rfl
theorem ZO4 {t:TypeId}{x:Operand}{ρ:Operand->AV}{σ:ZA}{K:AV->ZA->Prop}{k:Box K}:aef P B (.load t x) ρ σ (hold K k)=(ZBc P t σ (ρ x) (hold (fun r=>K r σ) .mk)):=rfl
theorem ZNO {t:TypeId}{a x:Operand}{ρ:Operand->AV}{σ:ZA}{K:AV->ZA->Prop}{k:Box K}:aef P B (.store t a x) ρ σ (hold K k)=(ZDo P t σ (ρ a) (ρ x) (hold (fun σ'=>K (.lit undef) σ') .mk)):=rfl
theorem ZIW {x:Operand}{ρ:Operand->AV}{σ:ZA}{K:AV->ZA->Prop}{k:Box K}:aef P B (.nilCheck x) ρ σ (hold K k)=(chk (ZBn σ (ρ x)) (hold (K (ρ x) σ) .mk)):=rfl
theorem ZNS {op:BinOp}{t yt:TypeId}{x y:Operand}{ρ:Operand->AV}{σ:ZA}{K:AV->ZA->Prop}{k:Box K}:aef P B (.binOp op t x y yt) ρ σ (hold K k)=(ZNa P op t (ρ x) (ρ y) (hold (fun r=>K r σ) .mk)):=rfl
theorem ZO1 {op:UnOp}{t:TypeId}{x:Operand}{ρ:Operand->AV}{σ:ZA}{K:AV->ZA->Prop}{k:Box K}:aef P B (.unOp op t x) ρ σ (hold K k)=(aUn op (ρ x) (hold (fun r=>K r σ) .mk)):=rfl
theorem ZJ0 {s d:TypeId}{x:Operand}{ρ:Operand->AV}{σ:ZA}{K:AV->ZA->Prop}{k:Box K}:aef P B (.convert s d x) ρ σ (hold K k)=(ZD3 P s d σ (ρ x) (hold (fun r=>K r σ) .mk)):=rfl
theorem ZIX {fn:Fn}{first cap:Array Operand}{ρ:Operand->AV}{σ:ZA}{K:AV->ZA->Prop}{k:Box K}:aef P B (.makeFunc fn first cap) ρ σ (hold K k)=(K (.fn fn (first.toList.map ρ) (cap.toList.map ρ)) σ):=rfl
theorem ZGu {t:TypeId}{l c:Operand}{ρ:Operand->AV}{σ:ZA}{K:AV->ZA->Prop}{k:Box K}:aef P B (.makeSlice t l c) ρ σ (hold K k)=(ZAO P B t σ (ρ l) (ρ c) (hold K .mk)):=rfl
theorem ZNP {t:TypeId}{x:Operand}{lo hi mx:Option Operand}{ρ:Operand->AV}{σ:ZA}{K:AV->ZA->Prop}{k:Box K}:aef P B (.slice t x lo hi mx) ρ σ (hold K k)=(ZBh P t σ (ρ x) (lo.map ρ) (hi.map ρ) (mx.map ρ) (hold K .mk)):=rfl
theorem ZGw {t:TypeId}{x:Operand}{f:Nat}{ρ:Operand->AV}{σ:ZA}{K:AV->ZA->Prop}{k:Box K}:aef P B (.fieldAddr t x f) ρ σ (hold K k)=(ZAD P t σ (ρ x) f (hold (fun r=>K r σ) .mk)):=rfl
theorem ZGv {t:TypeId}{x i:Operand}{ρ:Operand->AV}{σ:ZA}{K:AV->ZA->Prop}{k:Box K}:aef P B (.indexAddr t x i) ρ σ (hold K k)=(Zw P t σ (ρ x) (ρ i) (hold (fun r=>K r σ) .mk)):=rfl
theorem ZNQ {t:TypeId}{x i:Operand}{ρ:Operand->AV}{σ:ZA}{K:AV->ZA->Prop}{k:Box K}:aef P B (.index t x i) ρ σ (hold K k)=(ZCz P t (ρ x) (ρ i) (hold (fun r=>K r σ) .mk)):=rfl
theorem ZJz {x : Operand} {i : Nat}{ρ : Operand -> AV} {σ : ZA}{K : AV -> ZA -> Prop} {k : Box K} : aef P B (.extract x i) ρ σ (hold K k) = (match ρ x with
    | .tup vs=>chk (i<vs.length) (hold (K (vs.getD i .junk) σ) .mk)
    |_=>False):=rfl
theorem ZQD {x y:Operand}{t t2:TypeId}{ρ:Operand->AV}{σ:ZA}{K:AV->ZA->Prop}{k:Box K}:aef P B (.call {callee:=.builtin .len,args:=List.toArray [x],argTypes:=List.toArray [t]}) ρ σ (hold K k)=(ZLU P t σ (ρ x) (hold (fun r=>K r σ) .mk)):=rfl
theorem ZLL {x y:Operand}{t t2:TypeId}{ρ:Operand->AV}{σ:ZA}{K:AV->ZA->Prop}{k:Box K}:aef P B (.call {callee:=.builtin .append,args:=List.toArray [x,y],argTypes:=List.toArray [t,t2]}) ρ σ (hold K k)=(ZBx P B t t2 σ (ρ x) (ρ y) (hold K .mk)):=rfl
theorem ZQB {x y : Operand} {t t2 : TypeId}{ρ : Operand -> AV} {σ : ZA}{K : AV -> ZA -> Prop} {k : Box K} : aef P B (.call { callee := .builtin .min, args := List.toArray [x, y], argTypes := List.toArray [t, t2] }) ρ σ (hold K k) = (match ρ x, ρ y with
    | .lit (.int k a),.lit (.int _ b)=>K (.lit (.int k (if b<a then b else a))) σ
    |_,_=>False):=by
  simp only[aef,hold,List.map_cons,List.map_nil]
  unfold ZAm
  generalize ρ x=v;generalize ρ y=u
  cases v<;>try rfl
  next v=>
    cases v<;>try rfl
    cases u<;>try rfl
    next u=>cases u<;>rfl
theorem ZQC {x y : Operand} {t t2 : TypeId}{ρ : Operand -> AV} {σ : ZA}{K : AV -> ZA -> Prop} {k : Box K} : aef P B (.call { callee := .builtin .max, args := List.toArray [x, y], argTypes := List.toArray [t, t2] }) ρ σ (hold K k) = (match ρ x, ρ y with
    | .lit (.int k a),.lit (.int _ b)=>K (.lit (.int k (if b>a then b else a))) σ
    |_,_=>False):=by
  simp only[aef,hold,List.map_cons,List.map_nil]
  unfold ZAm
  generalize ρ x=v;generalize ρ y=u
  cases v<;>try rfl
  next v=>
    cases v<;>try rfl
    cases u<;>try rfl
    next u=>cases u<;>rfl
theorem ZLF {σ:ZA}{x:AV}{K:List AV->Prop}{k:Box K}:AV.cellsK σ x (hold K k)=(match x with
  | .agg cs=>K cs
  | .lit v=>chk (ZDv v) (hold (K [.lit v]) .mk)
  | .arr es=>K [.arr es]
  | .rptr e o=>K [.rptr e o]
  | .fn f a b=>K [.fn f a b]
  | .own l n=>chk (ok1 σ (.own l n)) (hold (K [.own l n]) .mk)
  | .ptr l n=>chk (ok1 σ (.ptr l n)) (hold (K [.ptr l n]) .mk)
  | .eptr l n i o=>chk (ok1 σ (.eptr l n i o)) (hold (K [.eptr l n i o]) .mk)
  | .junk=>False
  | .pre _ _ _=>False
  | .tup _=>False):=by cases x<;>simp[AV.cellsK,ok1,hold,chk]
theorem ZP8 {e:List AV}{off n:Nat}{K:List AV->Prop}{k:Box K}:rdE e off n (hold K k)=(if off=0/\n=e.length then K e else chk (off+n<=e.length) (hold (K ((e.drop off).take n)) .mk)):=rfl
theorem ZP7 {σ:ZA}{p:AV}{n:Nat}{K:List AV->Prop}{k:Box K}:rdN σ p n (hold K k)=(match p with
  | .rptr e off=>rdE e off n (hold K .mk)
  | .ptr l off=>match σ[l]? with
    |some (.cells cs)=>rdE cs off n (hold K .mk)
    |_=>False
  | .eptr l k i off=>match σ[l]? with
    |some (.elems _ es)=>chk (es.length=k) (hold (chk (i<es.length) (hold (rdE (es.getD i []) off n (hold K .mk)) .mk)) .mk)
    |_=>False
  |_=>False):=rfl
theorem ZP9 {σ:ZA}{p:AV}{K:AV->Prop}{k:Box K}:rd1 σ p (hold K k)=(match p with
  | .rptr e off=>chk (off<e.length) (hold (K (e.getD off .junk)) .mk)
  | .ptr l off=>match σ[l]? with
    |some (.cells cs)=>chk (off<cs.length) (hold (K (cs.getD off .junk)) .mk)
    |_=>False
  | .eptr l k i off=>match σ[l]? with
    |some (.elems _ es)=>chk (es.length=k) (hold (chk (i<es.length) (hold (chk (off<(es.getD i []).length) (hold (K ((es.getD i []).getD off .junk)) .mk)) .mk)) .mk)
    |_=>False
  |_=>False):=rfl
theorem ZNJ {σ:ZA}{t:TypeId}{p:AV}{K:AV->Prop}{k:Box K}:ZBc P t σ p (hold K k)=(match Zu P t with
  |some i=>if i.sh.isAgg then rdN σ p i.size (hold (fun cs=>K (.agg cs)) .mk)else rd1 σ p (hold K .mk)
  |none=>False):=rfl
theorem ZP6 {e cs:List AV}{off:Nat}{K:List AV->Prop}{k:Box K}:wrE e off cs (hold K k)=(if off=0/\cs.length=e.length then K cs
  else chk (off+cs.length<=e.length) (hold (K (e.take off++cs++e.drop (off+cs.length))) .mk)):=rfl
theorem ZP5 {σ:ZA}{p:AV}{cs:List AV}{K:ZA->Prop}{k:Box K}:wrN σ p cs (hold K k)=(match p with
  | .ptr l off=>match σ[l]? with
    |some (.cells old)=>wrE old off cs (hold (fun new=>K (σ.set l (.cells new))) .mk)
    |_=>False
  | .eptr l k i off=>match σ[l]? with
    |some (.elems sz es)=>chk (es.length=k) (hold (chk (i<es.length) (hold (wrE (es.getD i []) off cs (hold (fun new=>K (σ.set l (.elems sz (es.set i (new.map (nzs σ)))))) .mk)) .mk)) .mk)
    |_=>False
  |_=>False):=rfl
theorem ZLG {σ:ZA}{t:TypeId}{p v:AV}{K:ZA->Prop}{k:Box K}:ZDo P t σ p v (hold K k)=(match Zu P t with
  |some i=>AV.cellsK σ v (hold (fun cs=>chk (cs.length=i.size) (hold (chk (Zh σ cs) (hold (wrN σ p cs (hold K .mk)) .mk)) .mk)) .mk)
  |none=>False):=rfl
theorem ZFm {σ:ZA}{t:TypeId}{p:AV}{f:Nat}{K:AV->Prop}{k:Box K}:ZAD P t σ p f (hold K k)=(match Zu P t with
  |some ⟨.struct offs,_,_⟩=>match offs[f]? with
    |some (o,s+1)=>chk (ZBn σ p) (hold (K (p.adv o)) .mk)
    |_=>False
  |_=>False):=rfl
theorem ZFk {σ:ZA}{t:TypeId}{x i:AV}{K:AV->Prop}{k:Box K}:Zw P t σ x i (hold K k)=(match i,Zu P t with
  | .lit (.int _ n),some ⟨.slice sz _ _,_,_⟩=>match x with
    | .arr es=>chk (0<=n) (hold (chk (n.toNat<es.length) (hold (chk ((es.getD n.toNat []).length=sz) (hold (K (.rptr (es.getD n.toNat []) 0)) .mk)) .mk)) .mk)
    | .own l k=>match σ[l]? with
      |some (.elems sz' es)=>chk (es.length=k) (hold (chk (sz'=sz) (hold (chk (0<=n) (hold (chk (n.toNat<k) (hold (K (.eptr l k n.toNat 0)) .mk)) .mk)) .mk)) .mk)
      |_=>False
    |_=>False
  | .lit (.int _ n),some ⟨.array len (sz+1),_,_⟩=>chk (0<=n) (hold (chk (n.toNat<len) (hold (chk (ZBn σ x) (hold (K (x.adv (n.toNat*(sz+1)))) .mk)) .mk)) .mk)
  |_,_=>False):=rfl
theorem ZLI {t:TypeId}{x i:AV}{K:AV->Prop}{k:Box K}:ZCz P t x i (hold K k)=(match x,i with
  | .lit (.string s),.lit (.int _ n)=>chk (P.underlying t=some .string) (hold (chk (0<=n) (hold (chk (n.toNat<s.size) (hold (K (.lit (.int .u8 (byteAt s n.toNat)))) .mk)) .mk)) .mk)
  | .agg cs,.lit (.int _ n)=>match P.underlying t with
    |some (.array len e)=>match Zu P e with
      |some j=>chk (j.sh.isAgg=false) (hold (chk (j.size=1) (hold (chk (len=cs.length) (hold (chk (0<=n) (hold (chk (n.toNat<len) (hold (K (cs.getD n.toNat .junk)) .mk)) .mk)) .mk)) .mk)) .mk)
      |none=>False
    |_=>False
  |_,_=>False):=rfl
theorem ZOz {σ:ZA}{t:TypeId}{x:AV}{K:AV->Prop}{k:Box K}:ZLU P t σ x (hold K k)=(match P.underlying t with
  |some (.slice _)=>match x with
    | .arr es=>K (.lit (.int .i64 es.length))
    | .lit (.slice none 0 0)=>K (.lit (.int .i64 0))
    | .own l k=>K (.lit (.int .i64 k))
    |_=>False
  |some .string=>match x with
    | .lit (.string s)=>K (.lit (.int .i64 s.size))
    |_=>False
  |some (.array n _)=>K (.lit (.int .i64 n))
  |_=>False):=rfl
theorem ZLE {σ:ZA}{x:AV}{K:List (List AV)->Prop}{k:Box K}:ZCy σ x (hold K k)=(match x with
  | .arr es=>K es
  | .lit (.slice none 0 0)=>K []
  | .lit (.slice (some _) 0 _)=>K []
  | .own l k=>match σ[l]? with
    |some (.elems _ es)=>chk (es.length=k) (hold (K es) .mk)
    |_=>False
  |_=>False):=rfl
theorem ZJy {σ:ZA}{t t2:TypeId}{s x:AV}{K:AV->ZA->Prop}{k:Box K}:ZBx P B t t2 σ s x (hold K k)=(match Zu P t,P.underlying t2 with
  |some ⟨.slice sz bytes zs,_,_⟩,some (.slice _)=>
    chk (zs.length=sz) (hold (chk (sz≠0) (hold (chk (bytes≠0) (hold (ZCy σ x (hold (fun new=>chk (ZID sz new) (hold (chk (ZC2 σ new) (hold (
      match s with
      | .lit (.slice none 0 0) => chk (new.length <= B) (hold (chk ((2 * new.length + 1024) * bytes <= 281474976710656) (hold (
          K (.own σ.length new.length) (σ++[.elems sz new])) .mk)) .mk)
      | .own l n=>match σ[l]? with
        | some (.elems sz' es) => chk (es.length = n) (hold (chk (sz' = sz) (hold (chk (n + new.length <= B) (hold (chk ((2 * (n + new.length) + 1024) * bytes <= 281474976710656) (hold (
            K (.own l (n+new.length)) (σ.set l (.elems sz (es++new)))) .mk)) .mk)) .mk)) .mk)
        |_=>False
      |_=>False) .mk)) .mk)) .mk)) .mk)) .mk)) .mk)
  |_,_=>False):=rfl
theorem ZO0 {op:BinOp}{t:TypeId}{x y:AV}{K:AV->Prop}{k:Box K}:ZNa P op t x y (hold K k)=(match x,y with
  | .lit (.int k a),.lit (.int k' b)=>chk (k=k') (hold (match op with
    | .add=>K (.lit (.int k (k.wrap (a+b))))
    | .sub=>K (.lit (.int k (k.wrap (a-b))))
    | .mul=>K (.lit (.int k (k.wrap (a*b))))
    | .quo=>chk (b≠0) (hold (K (.lit (.int k (k.wrap (a.tdiv b))))) .mk)
    | .rem=>chk (b≠0) (hold (K (.lit (.int k (a.tmod b)))) .mk)
    | .eql=>K (.lit (.bool (a==b)))
    | .neq=>K (.lit (.bool (a !=b)))
    | .lss=>K (.lit (.bool (a<b)))
    | .leq=>K (.lit (.bool (a<=b)))
    | .gtr=>K (.lit (.bool (a>b)))
    | .geq=>K (.lit (.bool (a≥b)))
    | .xor=>K (.lit (.int k (ZNk k a b)))
    |_=>False) .mk)
  | .lit (.string a),.lit (.string b)=>match op with
    | .add=>chk ((a.size+b.size:Nat)<=9223372036854775807) (hold (K (.lit (.string (a++b)))) .mk)
    | .eql=>K (.lit (.bool (a.toList==b.toList)))
    | .neq=>K (.lit (.bool (!(a.toList==b.toList))))
    |_=>False
  | .lit (.bool a),.lit (.bool b)=>chk (P.underlying t=some .bool) (hold (match op with
    | .eql=>K (.lit (.bool (a==b)))
    | .neq=>K (.lit (.bool (!(a==b))))
    |_=>False) .mk)
  | .agg xs,.agg ys=>match ZAr xs,ZAr ys with
    |some p,some q=>chk (ZCE P t=true) (hold (match op with
      | .eql=>K (.lit (.bool (dec (eq2 p q))))
      | .neq=>K (.lit (.bool (!dec (eq2 p q))))
      |_=>False) .mk)
    |_,_=>match ZBD xs,ZBD ys with
      |some p,some q=>chk (ZDE P t=true) (hold (match op with
        | .eql=>K (.lit (.bool (dec (eq3 p q))))
        | .neq=>K (.lit (.bool (!dec (eq3 p q))))
        |_=>False) .mk)
      |_,_=>match ZB7 xs,ZB7 ys with
        |some p,some q=>chk (ZEB P t=true) (hold (match op with
          | .eql=>K (.lit (.bool (dec (eq4 p q))))
          | .neq=>K (.lit (.bool (!dec (eq4 p q))))
          |_=>False) .mk)
        |_,_=>False
  | .arr es,.lit (.slice none 0 0)=>chk (ZF3 P t=true) (hold (chk (es≠[]) (hold (match op with
    | .eql=>K (.lit (.bool false))
    | .neq=>K (.lit (.bool true))
    |_=>False) .mk)) .mk)
  | .lit (.slice a n c),.lit (.slice none 0 0)=>chk (ZF3 P t=true) (hold (match op with
    | .eql=>K (.lit (.bool a.isNone))
    | .neq=>K (.lit (.bool (!a.isNone)))
    |_=>False) .mk)
  |_,_=>False):=rfl
theorem ZQA {op:UnOp}{x:AV}{K:AV->Prop}{k:Box K}:aUn op x (hold K k)=(match op,x with
  | .not,.lit (.bool b)=>K (.lit (.bool (!b)))
  | .neg,.lit (.int k n)=>K (.lit (.int k (k.wrap (0-n))))
  |_,_=>False):=rfl
theorem ZNK {s d:TypeId}{σ:ZA}{x:AV}{K:AV->Prop}{k:Box K}:ZD3 P s d σ x (hold K k)=(match P.underlying s,P.underlying d,x with
  |some (.int _),some (.int k),.lit (.int _ n)=>K (.lit (.int k (k.wrap n)))
  |some (.slice e),some .string,.arr es=>chk (ZA5 P (some (.slice e))=true) (hold (match u8s es with
    |some ns=>K (.lit (.string (ZF2 ns)))
    |none=>False) .mk)
  |some (.slice e),some .string,.own l n=>chk (ZA5 P (some (.slice e))=true) (hold (match σ[l]? with
    |some (.elems _ es)=>chk (es.length=n) (hold (match u8s es with
      |some ns=>K (.lit (.string (ZF2 ns)))
      |none=>False) .mk)
    |_=>False) .mk)
  |_,_,_=>False):=rfl
theorem ZJx {σ:ZA}{K:List AV->ZA->Prop}{k:Box K}:frz σ [] (hold K k)=(K [] σ):=id rfl
theorem ZIR {σ:ZA}{x:AV}{r:List AV}{K:List AV->ZA->Prop}{k:Box K}:frz σ (x::r) (hold K k)=(match x with
  | .own l n=>(match σ[l]? with
    |some (.elems _ es)=>chk (es.length=n) (hold (chk (Zp es) (hold (frz (σ.set l .dead) r (hold (fun r' σ'=>K (.arr es::r') σ') .mk)) .mk)) .mk)
    |_=>False)
  | .lit v=>frz σ r (hold (fun r' σ'=>K (.lit v::r') σ') .mk)
  | .arr v=>frz σ r (hold (fun r' σ'=>K (.arr v::r') σ') .mk)
  |y=>frz σ r (hold (fun r' σ'=>K (y::r') σ') .mk)):=by
  simp only[hold]
  cases x with
  |own l n=>simp only[frz];generalize σ[l]? =ob;rcases ob with _|(_|cs|⟨sz,es⟩)<;>rfl
  |_=>rfl
theorem ZIQ {σ:ZA}{K:List (List AV)->ZA->Prop}{k:Box K}:ZL3 σ [] (hold K k)=(K [] σ):=id rfl
theorem ZGo {σ:ZA}{x:List AV}{r:List (List AV)}{K:List (List AV)->ZA->Prop}{k:Box K}:ZL3 σ (x::r) (hold K k)=(frz σ x (hold (fun e' σ'=>ZL3 σ' r (hold (fun r' σ''=>K (e'::r') σ'') .mk)) .mk)):=id rfl
theorem ZOx {σ:ZA}{x:AV}{K:AV->ZA->Prop}{k:Box K}:ZGg σ x (hold K k)=(match x with
  | .agg cs=>frz σ cs (hold (fun cs' σ'=>K (.agg cs') σ') .mk)
  | .own l n=>(match σ[l]? with
    |some (.elems _ es)=>chk (es.length=n) (hold (chk (Zp es) (hold (K (.arr es) (σ.set l .dead)) .mk)) .mk)
    |_=>False)
  | .lit v=>K (.lit v) σ
  | .arr v=>K (.arr v) σ
  |y=>K y σ):=by cases x<;>rfl
theorem ZIT {σ:ZA}{K:List AV->ZA->Prop}{k:Box K}:ZJs σ [] (hold K k)=(K [] σ):=rfl
theorem ZGq {σ:ZA}{x:AV}{r:List AV}{K:List AV->ZA->Prop}{k:Box K}:ZJs σ (x::r) (hold K k)=(ZGg σ x (hold (fun x' σ'=>ZJs σ' r (hold (fun r' σ''=>K (x'::r') σ'') .mk)) .mk)):=rfl
theorem ZOw {σ:ZA}{x:AV}{K:AV->ZA->Prop}{k:Box K}:ZK8 σ x (hold K k)=(match x with
  | .tup xs=>ZJs σ xs (hold (fun xs' σ'=>K (.tup xs') σ') .mk)
  | .lit v=>K (.lit v) σ
  | .arr v=>K (.arr v) σ
  |y=>ZGg σ y (hold K .mk)):=by cases x<;>rfl
theorem ZIV {σ:ZA}{fr:Frm}{K:List AV->Prop}{k:Box K}:ZBz P σ fr [] (hold K k)=(K []):=rfl
theorem ZIU {σ:ZA}{fr:Frm}{t:Nat}{r:List ResultVar}{K:List AV->Prop}{k:Box K}:ZBz P σ fr (.tmp t::r) (hold K k)=(ZBz P σ fr r (hold (fun xs=>K (lk fr t::xs)) .mk)):=rfl
theorem ZGr {σ:ZA}{fr:Frm}{a:Nat}{t:TypeId}{r:List ResultVar}{K:List AV->Prop}{k:Box K}:ZBz P σ fr (.cell a t::r) (hold K k)=(ZBc P t σ (lk fr a) (hold (fun x=>ZBz P σ fr r (hold (fun xs=>K (x::xs)) .mk)) .mk)):=rfl
theorem ZGs {place:Nat->Option (Nat×Nat)}{σ:ZA}{cs:List AV}{K:List AV->Prop}{k:Box K}:ZBN place σ cs [] (hold K k)=(K cs):=rfl
theorem ZFl {place : Nat -> Option (Nat × Nat)}{σ : ZA}{cs : List AV} {i : Nat} {x : AV} {rest : List (Nat × AV)}{K : List AV -> Prop} {k : Box K} : ZBN place σ cs ((i, x) :: rest) (hold K k) = (match place i with
    |some (off,size)=>AV.cellsK σ x (hold (fun new=>chk (new.length=size) (hold (wrE cs off new (hold (fun cs'=>ZBN place σ cs' rest (hold K .mk)) .mk)) .mk)) .mk)
    |none=>False):=rfl
theorem ZLJ {σ:ZA}{t:TypeId}{ps:List (Nat×AV)}{K:AV->ZA->Prop}{k:Box K}:ZBj P t σ ps (hold K k)=(match Zu P t with
  |some ⟨.struct offs,_,z⟩=>chk ((∀p,p∈offs->p.2≠0)) (hold (chk (z≠[]) (hold (ZBN (fun i=>offs[i]?) σ (z.map .lit) ps (hold (fun cs=>bfrz σ cs (hold (fun cs' σ'=>K (.agg cs') σ') .mk)) .mk)) .mk)) .mk)
  |_=>False):=rfl
theorem ZOy {σ:ZA}{cs:List AV}{K:List AV->ZA->Prop}{k:Box K}:bfrz σ cs (hold K k)=(if σ.any isM=true then K cs σ else frz σ cs (hold K .mk)):=rfl
theorem ZJn {n:Nat}{es:List (List AV)}:isM (.elems n es)=decide (n=0):=by cases n<;>rfl
theorem ZJo {cs:List AV}:isM (.cells cs)=false:=rfl
theorem ZKv :isM .dead=false:=rfl
theorem ZKu {xs:List AV}{vs:List Value}:isM (.pack xs vs)=true:=rfl
theorem ZIF {n:Nat}{es:List (List AV)}:ZOe (.elems n es)=false:=rfl
theorem ZIG {cs:List AV}:ZOe (.cells cs)=false:=rfl
theorem ZJm :ZOe .dead=false:=rfl
theorem ZJl {xs:List AV}{vs:List Value}:ZOe (.pack xs vs)=true:=rfl
theorem ZFn {σ:ZA}{sz j:Nat}{K:List (List AV)->Prop}{k:Box K}:ZBi σ sz j [] (hold K k)=(K []):=rfl
theorem ZEy {σ:ZA}{sz j i:Nat}{x:AV}{rest:List (Nat×AV)}{K:List (List AV)->Prop}{k:Box K}:ZBi σ sz j ((i,x)::rest) (hold K k)=(chk (i=j) (hold (AV.cellsK σ x (hold (fun e=>chk (e.length=sz) (hold (ZBi σ sz (j+1) rest (hold (fun es=>K (e.map (nzs σ)::es)) .mk)) .mk)) .mk)) .mk)):=rfl
theorem ZEz {σ:ZA}{t:TypeId}{len:Nat}{ps:List (Nat×AV)}{K:AV->ZA->Prop}{k:Box K}:Zz P B t σ len ps (hold K k)=(match Zu P t with
  |some ⟨.slice sz _ z,_,_⟩=>chk (ps.length=len) (hold (chk (len*sz<=16777216) (hold (chk (len<=B) (hold (chk (z.length=sz) (hold (chk (sz≠0) (hold (ZBi σ sz 0 ps (hold (fun es=>ZL3 σ es (hold (fun es' σ'=>K (.own σ'.length len) (σ'++[.elems sz es'])) .mk)) .mk)) .mk)) .mk)) .mk)) .mk)) .mk)
  |_=>False):=rfl
theorem ZFj {σ:ZA}{t:TypeId}{l c:AV}{K:AV->ZA->Prop}{k:Box K}:ZAO P B t σ l c (hold K k)=(match Zu P t,l,c with
  |some ⟨.slice sz bytes z,_,_⟩,.lit (.int _ n),.lit (.int _ n')=>chk (n=n') (hold (chk (0<=n) (hold (chk (n<=9223372036854775807) (hold (chk (bytes*n<=281474976710656) (hold (chk (n.toNat<=B) (hold (chk (z.length=sz) (hold (chk (sz≠0) (hold (K (.own σ.length n.toNat) (σ++[.elems sz (List.replicate n.toNat ((z.map .lit).map (nzs σ)))])) .mk)) .mk)) .mk)) .mk)) .mk)) .mk)) .mk)
  |_,_,_=>False):=rfl
theorem ZLD {x:Option AV}{d:Nat}{K:Nat->Prop}{k:Box K}:ZAe x d (hold K k)=(match x with
  |none=>K d
  |some (.lit (.int _ n))=>chk (0<=n) (hold (K n.toNat) .mk)
  |_=>False):=rfl
theorem ZLH {σ:ZA}{t:TypeId}{x:AV}{lo hi mx:Option AV}{K:AV->ZA->Prop}{k:Box K}:ZBh P t σ x lo hi mx (hold K k)=(match x,mx with
  | .lit (.string s),none=>chk (P.underlying t=some .string) (hold (
    ZAe lo 0 (hold (fun l=>ZAe hi s.size (hold (fun h=>chk (l<=h) (hold (chk (h<=s.size) (hold (K (.lit (.string (s.extract l h))) σ) .mk)) .mk)) .mk)) .mk)) .mk)
  | .arr es,none=>match Zu P t with
    |some ⟨.slice sz _ _,_,_⟩=>chk (ZID sz es) (hold (
      ZAe lo 0 (hold (fun l=>ZAe hi es.length (hold (fun h=>chk (l<=h) (hold (chk (h<=es.length) (hold (K (.arr ((es.drop l).take (h-l))) σ) .mk)) .mk)) .mk)) .mk)) .mk)
    |_=>False
  | .own l n,none=>match lo,Zu P t with
    |none,some ⟨.slice _ _ _,_,_⟩=>ZAe hi n (hold (fun h=>chk (h<=n) (hold (K (.pre l n h) σ) .mk)) .mk)
    |_,_=>False
  |_,_=>False):=rfl
theorem ZNI {σ:ZA}{x:AV}:ZBn σ x=(match x with
  | .rptr _ _=>True
  | .ptr l _=>match σ[l]? with
    |some (.cells _)=>True
    |_=>False
  | .eptr l k _ _=>match σ[l]? with
    |some (.elems _ es)=>es.length=k/\es≠[]
    |_=>False
  |_=>False):=rfl
end
attribute [simp ↓] ZE3 ZD2 ZLP ZKW ZPf ZNt ZEf ZHw ZGG ZOg ZKw ZOj ZPz ZOk ZMz ZOh ZOi ZP0 ZKU ZPb ZNp ZLQ ZQH ZPE ZPi ZKe ZJq ZIJ ZGe ZGd ZOK ZNx ZKk ZKY ZOJ ZNw ZMl ZMR ZPk ZPg ZMj ZMP ZFS ZFI ZOL ZNy ZMg ZMM ZH9 ZHy ZMk ZMQ ZOI ZNv ZJX ZI4 ZIA ZHz ZGS ZGH ZMh ZMN ZGU ZGJ ZGT ZGI ZMi ZMO ZJW ZI3 ZJY ZI5 ZOM ZNz ZMy ZMx ZII ZIH ZM0 ZKx ZIL ZIK ZFd ZO3 ZLK ZO2 ZNT ZQE ZNR ZFo ZO4 ZNO ZIW ZNS ZO1 ZJ0 ZIX ZGu ZNP ZGw ZGv ZNQ ZJz ZQD ZLL ZQB ZQC ZLF ZP8 ZP7 ZP9 ZNJ ZP6 ZP5 ZLG ZFm ZFk ZLI ZOz ZLE ZJy ZO0 ZQA ZNK ZJx ZIR ZIQ ZGo ZOx ZIT ZGq ZOw ZIV ZIU ZGr ZGs ZFl ZLJ ZOy ZFn ZEy ZEz ZFj ZLD ZLH ZNI
attribute [simp] ZHo ZF8 ZPL u8s ZA5
attribute [simp] ZJn ZJo ZKv ZKu ZIF ZIG ZJm ZJl nzs
attribute [simp] nz AV.le AV.le.les ZOs ZE6 Blk.le pack ZFJ Blk.closed ZAG ZOt AV.bnd AV.bnd.bnds ev ZDB lk AV.adv Sh.isAgg ZAK
theorem ZPB {n:Nat}{v:Value}:AV.closed n (.lit v)↔True:=by simp[AV.closed]
theorem ZNW {n:Nat}:AV.closed n .junk↔True:=by simp[AV.closed]
theorem ZPC {n:Nat}{es:List (List AV)}:AV.closed n (.arr es)↔True:=by simp[AV.closed]
theorem ZNV {n:Nat}{e:List AV}{o:Nat}:AV.closed n (.rptr e o)↔True:=by simp[AV.closed]
theorem ZO9 {n l i k:Nat}:AV.closed n (.pre l i k)↔l<n:=by simp[AV.closed]
theorem ZPA {n l k:Nat}:AV.closed n (.own l k)↔l<n:=by simp[AV.closed]
theorem ZO8 {n l k:Nat}:AV.closed n (.ptr l k)↔l<n:=by simp[AV.closed]
theorem ZNX {n l k i o:Nat}:AV.closed n (.eptr l k i o)↔l<n:=by simp[AV.closed]
theorem ZPD {n:Nat}{cs:List AV}:AV.closed n (.agg cs)↔AV.closed.closeds n cs:=by simp[AV.closed]
theorem ZO7 {n:Nat}{cs:List AV}:AV.closed n (.tup cs)↔AV.closed.closeds n cs:=by simp[AV.closed]
theorem ZQG {n:Nat}{f:Fn}{xs ys:List AV}:AV.closed n (.fn f xs ys)↔AV.closed.closeds n xs/\AV.closed.closeds n ys:=by simp[AV.closed]
theorem ZNU {n:Nat}:AV.closed.closeds n []↔True:=by simp[AV.closed.closeds]
theorem ZLM {n:Nat}{x:AV}{r:List AV}:AV.closed.closeds n (x::r)↔x.closed n/\AV.closed.closeds n r:=by simp[AV.closed.closeds]
theorem ZN4 {v:Value}:AV.pure (.lit v)↔True:=by simp[AV.pure]
theorem ZMU :AV.pure .junk↔True:=by simp[AV.pure]
theorem ZN5 {es:List (List AV)}:AV.pure (.arr es)↔True:=by simp[AV.pure]
theorem ZMT {e:List AV}{o:Nat}:AV.pure (.rptr e o)↔True:=by simp[AV.pure]
theorem ZN2 {l i k:Nat}:AV.pure (.pre l i k)↔False:=by simp[AV.pure]
theorem ZN3 {l k:Nat}:AV.pure (.own l k)↔False:=by simp[AV.pure]
theorem ZN1 {l k:Nat}:AV.pure (.ptr l k)↔False:=by simp[AV.pure]
theorem ZN6 {cs:List AV}:AV.pure (.agg cs)↔AV.pure.pures cs:=by simp[AV.pure]
theorem ZN0 {cs:List AV}:AV.pure (.tup cs)↔AV.pure.pures cs:=by simp[AV.pure]
theorem ZPh {f:Fn}{xs ys:List AV}:AV.pure (.fn f xs ys)↔AV.pure.pures xs/\AV.pure.pures ys:=by simp[AV.pure]
theorem ZMS :AV.pure.pures []↔True:=by simp[AV.pure.pures]
theorem ZKZ {x:AV}{r:List AV}:AV.pure.pures (x::r)↔x.pure/\AV.pure.pures r:=by simp[AV.pure.pures]
theorem ZKi {b:Bool}:ZDv (.bool b)↔True:=by simp[ZDv]
theorem ZMc {k:IntKind}{b:Int}:ZDv (.int k b)↔True:=by simp[ZDv]
theorem ZH7 {b:ByteArray}:ZDv (.string b)↔True:=by simp[ZDv]
theorem ZJS {a:Option Addr}{l c:Nat}:ZDv (.slice a l c)↔True:=by simp[ZDv]
theorem ZGQ {a:Option Addr}:ZDv (.pointer a)↔True:=by simp[ZDv]
theorem ZMb {a:Option Nat}:ZDv (.map a)↔True:=by simp[ZDv]
theorem ZGR :ZDv .nilFunc↔True:=by simp[ZDv]
theorem ZOG {σ:ZA}{v:Value}:ok1 σ (.lit v)↔ZDv v:=by simp[ok1]
theorem ZOH {σ:ZA}{es:List (List AV)}:ok1 σ (.arr es)↔True:=by simp[ok1]
theorem ZMe {σ:ZA}{e:List AV}{o:Nat}:ok1 σ (.rptr e o)↔True:=by simp[ok1]
theorem ZPj {σ:ZA}{f:Fn}{xs ys:List AV}:ok1 σ (.fn f xs ys)↔True:=by simp[ok1]
theorem ZOF {σ:ZA}{l n:Nat}:ok1 σ (.own l n)=(match σ[l]? with|some (.elems _ es)=>es.length=n|_=>False):=rfl
theorem ZOE {σ:ZA}{l n:Nat}:ok1 σ (.ptr l n)=(match σ[l]? with|some (.cells _)=>True|_=>False):=rfl
theorem ZMf {σ:ZA}{l n i o:Nat}:ok1 σ (.eptr l n i o)=(match σ[l]? with|some (.elems _ es)=>es.length=n/\es≠[]|_=>False):=rfl
theorem ZMd {σ:ZA}:Zh σ []↔True:=by simp[Zh]
theorem ZKj {σ:ZA}{x:AV}{r:List AV}:Zh σ (x::r)↔ok1 σ x/\Zh σ r:=by simp[Zh]
attribute [simp] ZO9 ZN2 ZPB ZNW ZPC ZNV ZPA ZO8 ZNX ZPD ZO7 ZQG ZNU ZLM ZN4 ZMU ZN5 ZMT ZN3 ZN1 ZN6 ZN0 ZPh ZMS ZKZ ZKi ZMc ZH7 ZJS ZGQ ZMb ZGR ZOG ZOH ZMe ZPj ZOF ZOE ZMf ZMd ZKj
end Go.Vl
