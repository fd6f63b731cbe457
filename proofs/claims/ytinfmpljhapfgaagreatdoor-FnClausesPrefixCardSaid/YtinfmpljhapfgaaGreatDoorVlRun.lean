/- A part of the proof. -/
import Derived.Test.YtinfmpljhapfgaaGreatDoorVlStep
set_option linter.all false
namespace Go.Vl
open Go Go.RowKit
section
variable {P : Program} {B nb N : Nat}
theorem ZOg {Q:Exit->ASt->Prop}{q:Box Q}{st:ASt}:awp P B nb N .skip st (hold Q q)=(Q .normal st):=rfl
theorem ZKt {Q:Exit->ASt->Prop}{q:Box Q}{st:ASt}{id:Nat}{l:List Oper}:awp P B nb N (.region id (List.toArray l) false) st (hold Q q)=(ZHc P B N (hold (List.toArray l) .mk) l st (hold (Q .normal) .mk)):=by simp only[awp,Bool.false_eq_true,if_false,hold]
theorem ZOj {Q:Exit->ASt->Prop}{q:Box Q}{st:ASt}{id:Nat}{ops:Array Oper}:awp P B nb N (.region id ops true) st (hold Q q)=(ADraw P B nb N (hold ops .mk) st (hold (Q .normal) .mk)):=by simp only[awp,if_true,hold]
theorem ZPx {Q:Exit->ASt->Prop}{q:Box Q}{st:ASt}{a b:Code}:awp P B nb N (.seq a b) st (hold Q q)=(awp P B nb N a st (hold (ZPK P B nb N b Q) .mk)):=by simp only[hold];rw[awp];congr
theorem ZOk {Q : Exit -> ASt -> Prop} {q : Box Q}{st : ASt}{c : Operand} {a b : Code} : awp P B nb N (.cond c a b) st (hold Q q) = (match ev st.fr c with
    | .lit (.bool v)=>abr (v=true) (hold (awp P B nb N a st (hold Q .mk)) .mk) (hold (awp P B nb N b st (hold Q .mk)) .mk)
    |_=>False):=by
  simp only[awp,hold]
  generalize ev st.fr c=v
  cases v<;>try rfl
  next v=>cases v<;>first|exact ZG0.symm|rfl
theorem ZMp {Q:Exit->ASt->Prop}{q:Box Q}{st:ASt}{id:Nat}{c:Code}:awp P B nb N (.block id c) st (hold Q q)=(awp P B nb N c st (hold (ZHY id Q) .mk)):=by simp only[hold];rw[awp];congr
theorem ZOh {Q:Exit->ASt->Prop}{q:Box Q}{st:ASt}{c:Code}:awp P B nb N (.loop c) st (hold Q q)=(ALoop P B nb N (hold c .mk) st (hold Q .mk)):=rfl
theorem ZOi {Q:Exit->ASt->Prop}{q:Box Q}{st:ASt}{i:Nat}:awp P B nb N (.exit i) st (hold Q q)=(Q (.exit i) st):=rfl
theorem ZPy {Q:Exit->ASt->Prop}{q:Box Q}{st:ASt}:awp P B nb N .ret st (hold Q q)=(Q .ret st):=rfl
theorem ZKO {c:Code}{bc:Box c}{Q:Exit->ASt->Prop}{bQ:Box Q}{st:ASt}:ZFA P B nb N (hold c bc) (hold Q bQ) .normal st=Again P B nb N (hold c .mk) (hold Q .mk) st:=rfl
theorem ZPc {c:Code}{bc:Box c}{Q:Exit->ASt->Prop}{bQ:Box Q}{st:ASt}:ZFA P B nb N (hold c bc) (hold Q bQ) .ret st=Leave B nb N (hold Q .mk) .ret st:=rfl
theorem ZNo {c:Code}{bc:Box c}{Q:Exit->ASt->Prop}{bQ:Box Q}{i:Nat}{st:ASt}:ZFA P B nb N (hold c bc) (hold Q bQ) (.exit i) st=Leave B nb N (hold Q .mk) (.exit i) st:=rfl
theorem ZKM {Q:Exit->ASt->Prop}{st:ASt}{b:Code}:ZPK P B nb N b Q .normal st=(awp P B nb N b st (hold Q .mk)):=rfl
theorem ZPY {Q:Exit->ASt->Prop}{st:ASt}{b:Code}:ZPK P B nb N b Q .ret st=(Q .ret st):=rfl
theorem ZNl {Q:Exit->ASt->Prop}{st:ASt}{b:Code}{i:Nat}:ZPK P B nb N b Q (.exit i) st=(Q (.exit i) st):=rfl
theorem ZLN {Q:Exit->ASt->Prop}{st:ASt}{i:Nat}:ZHY i Q .normal st=(Q .normal st):=rfl
theorem ZQF {Q:Exit->ASt->Prop}{st:ASt}{i:Nat}:ZHY i Q .ret st=(Q .ret st):=rfl
theorem ZPE {Q:Exit->ASt->Prop}{st:ASt}{i j:Nat}:ZHY i Q (.exit j) st=(if j=i then Q .normal st else Q (.exit j) st):=rfl
theorem ZPf {fn:Func}{K:AV->ZA->Prop}{st:ASt}:ZAe P fn K .ret st=(ZBE P st.σ st.fr fn.results.toList (hold (fun xs=>ZIO st.σ (pack xs) (hold K .mk)) .mk)):=rfl
theorem ZKX {fn:Func}{K:AV->ZA->Prop}{st:ASt}:ZAe P fn K .normal st=(ZBE P st.σ st.fr fn.results.toList (hold (fun xs=>ZIO st.σ (pack xs) (hold K .mk)) .mk)):=rfl
theorem ZJl {K:ASt->Prop}{k:Box K}{st:ASt}{ops:Array Oper}:ZHc P B N ops [] st (hold K k)=(K st):=rfl
theorem ZIJ {K:ASt->Prop}{k:Box K}{st:ASt}{ops:Array Oper}{bo:Box ops}{o:Oper}{rest:List Oper}:ZHc P B N (hold ops bo) (o::rest) st (hold K k)=(ZAO (hold ops .mk) st.fr o.guard (hold (aop P B N o st (hold (fun st'=>ZHc P B N (hold ops .mk) rest st' (hold K .mk)) .mk)) .mk) (hold (ZAG N o.dst (.lit undef) st.fr st.σ (hold (fun st'=>ZHc P B N (hold ops .mk) rest st' (hold K .mk)) .mk)) .mk)):=rfl
theorem ZGb {ops:Array Oper}{bo:Box ops}{fr:Frm}{y n:Prop}{b:Box y}{b':Box n}:ZAO (hold ops bo) fr none (hold y b) (hold n b')=(y):=rfl
def ZIs (w:Bool)(v:AV)(y n:Prop):Prop:=match v with
  | .lit (.bool b)=>abr (b=w) (hold y .mk) (hold n .mk)
  | .lit _=>n
  |_=>False
theorem ZHj {w b:Bool}{y n:Prop}{k:Box y}{k':Box n}:ZIs w (.lit (.bool b)) (hold y k) (hold n k')=abr (b=w) (hold y .mk) (hold n .mk):=rfl
theorem ZF8 {w:Bool}{y n:Prop}{k:Box y}{k':Box n}:ZIs w (.lit undef) (hold y k) (hold n k')=n:=rfl
theorem ZGa {ops : Array Oper} {bo : Box ops}{fr : Frm} {j : Nat} {w : Bool} {y n : Prop} {b : Box y} {b' : Box n} : ZAO (hold ops bo) fr (some (j, w)) (hold y b) (hold n b') = (match (ops[j]?).bind (·.dst) with
      |none=>False
      |some d=>ZIs w (lk fr d) (hold y .mk) (hold n .mk)):=by
  simp only[ZAO,hold]
  generalize(ops[j]?).bind (fun x=>x.dst)=od
  cases od with
  |none=>rfl
  |some d=>
    simp only[]
    generalize lk fr d=v
    cases v<;>try rfl
    next v=>cases v<;>first|(simp only[yb,ZIs,Option.some.injEq];exact ZG0.symm)|(simp[yb,ZIs,hold];done)|rfl
theorem ZOH {x:Operand}{d:Option Nat}{t:TypeId}{p:String}{es:Array Edge}{g:Option (Nat×Bool)}{st:ASt}{K:ASt->Prop}{k:Box K}:aop P B N ⟨d,.move x,t,p,es,g⟩ st (hold K k)=(aef P B (.move x) (ev st.fr) st.σ (hold (fun r σ'=>ZAG N d r st.fr σ' (hold K .mk)) .mk)):=rfl
theorem ZNs {x:Operand}{fr:Frm}{σ:ZA}{K:AV->Prop}{k:Box K}:ZCO P B (.move x) fr σ (hold K k)=(aef P B (.move x) (ev fr) σ (hold (fun r σ'=>chk (σ'=σ) (hold (K r) .mk)) .mk)):=rfl
theorem ZKe {x:Operand}{d:Option Nat}{t:TypeId}{p:String}{es:Array Edge}{g:Option (Nat×Bool)}{st:ASt}{K:ASt->Prop}{k:Box K}:aop P B N ⟨d,.assign x,t,p,es,g⟩ st (hold K k)=(aef P B (.assign x) (ev st.fr) st.σ (hold (fun r σ'=>ZAG N d r st.fr σ' (hold K .mk)) .mk)):=rfl
theorem ZKQ {x:Operand}{fr:Frm}{σ:ZA}{K:AV->Prop}{k:Box K}:ZCO P B (.assign x) fr σ (hold K k)=(aef P B (.assign x) (ev fr) σ (hold (fun r σ'=>chk (σ'=σ) (hold (K r) .mk)) .mk)):=rfl
theorem ZOG {c a b:Operand}{d:Option Nat}{t:TypeId}{p:String}{es:Array Edge}{g:Option (Nat×Bool)}{st:ASt}{K:ASt->Prop}{k:Box K}:aop P B N ⟨d,.pick c a b,t,p,es,g⟩ st (hold K k)=(aef P B (.pick c a b) (ev st.fr) st.σ (hold (fun r σ'=>ZAG N d r st.fr σ' (hold K .mk)) .mk)):=rfl
theorem ZNr {c a b:Operand}{fr:Frm}{σ:ZA}{K:AV->Prop}{k:Box K}:ZCO P B (.pick c a b) fr σ (hold K k)=(aef P B (.pick c a b) (ev fr) σ (hold (fun r σ'=>chk (σ'=σ) (hold (K r) .mk)) .mk)):=rfl
theorem ZMd {e:TypeId}{d:Option Nat}{t:TypeId}{p:String}{es:Array Edge}{g:Option (Nat×Bool)}{st:ASt}{K:ASt->Prop}{k:Box K}:aop P B N ⟨d,.alloc e,t,p,es,g⟩ st (hold K k)=(aef P B (.alloc e) (ev st.fr) st.σ (hold (fun r σ'=>ZAG N d r st.fr σ' (hold K .mk)) .mk)):=rfl
theorem ZMK {e:TypeId}{fr:Frm}{σ:ZA}{K:AV->Prop}{k:Box K}:ZCO P B (.alloc e) fr σ (hold K k)=(aef P B (.alloc e) (ev fr) σ (hold (fun r σ'=>chk (σ'=σ) (hold (K r) .mk)) .mk)):=rfl
theorem ZPh {e:TypeId}{x:Operand}{d:Option Nat}{t:TypeId}{p:String}{es:Array Edge}{g:Option (Nat×Bool)}{st:ASt}{K:ASt->Prop}{k:Box K}:aop P B N ⟨d,.box e x,t,p,es,g⟩ st (hold K k)=(aef P B (.box e x) (ev st.fr) st.σ (hold (fun r σ'=>ZAG N d r st.fr σ' (hold K .mk)) .mk)):=rfl
theorem ZPd {e:TypeId}{x:Operand}{fr:Frm}{σ:ZA}{K:AV->Prop}{k:Box K}:ZCO P B (.box e x) fr σ (hold K k)=(aef P B (.box e x) (ev fr) σ (hold (fun r σ'=>chk (σ'=σ) (hold (K r) .mk)) .mk)):=rfl
theorem ZMb {ty:TypeId}{parts:Array (Nat×Operand)}{d:Option Nat}{t:TypeId}{p:String}{es:Array Edge}{g:Option (Nat×Bool)}{st:ASt}{K:ASt->Prop}{k:Box K}:aop P B N ⟨d,.build ty parts,t,p,es,g⟩ st (hold K k)=(aef P B (.build ty parts) (ev st.fr) st.σ (hold (fun r σ'=>ZAG N d r st.fr σ' (hold K .mk)) .mk)):=rfl
theorem ZMI {ty:TypeId}{parts:Array (Nat×Operand)}{fr:Frm}{σ:ZA}{K:AV->Prop}{k:Box K}:ZCO P B (.build ty parts) fr σ (hold K k)=(aef P B (.build ty parts) (ev fr) σ (hold (fun r σ'=>chk (σ'=σ) (hold (K r) .mk)) .mk)):=rfl
theorem ZFP {ty:TypeId}{len:Nat}{parts:Array (Nat×Operand)}{d:Option Nat}{t:TypeId}{p:String}{es:Array Edge}{g:Option (Nat×Bool)}{st:ASt}{K:ASt->Prop}{k:Box K}:aop P B N ⟨d,.buildSlice ty len parts,t,p,es,g⟩ st (hold K k)=(aef P B (.buildSlice ty len parts) (ev st.fr) st.σ (hold (fun r σ'=>ZAG N d r st.fr σ' (hold K .mk)) .mk)):=rfl
theorem ZFG {ty:TypeId}{len:Nat}{parts:Array (Nat×Operand)}{fr:Frm}{σ:ZA}{K:AV->Prop}{k:Box K}:ZCO P B (.buildSlice ty len parts) fr σ (hold K k)=(aef P B (.buildSlice ty len parts) (ev fr) σ (hold (fun r σ'=>chk (σ'=σ) (hold (K r) .mk)) .mk)):=rfl
theorem ZOI {ty:TypeId}{x:Operand}{d:Option Nat}{t:TypeId}{p:String}{es:Array Edge}{g:Option (Nat×Bool)}{st:ASt}{K:ASt->Prop}{k:Box K}:aop P B N ⟨d,.load ty x,t,p,es,g⟩ st (hold K k)=(aef P B (.load ty x) (ev st.fr) st.σ (hold (fun r σ'=>ZAG N d r st.fr σ' (hold K .mk)) .mk)):=rfl
theorem ZNt {ty:TypeId}{x:Operand}{fr:Frm}{σ:ZA}{K:AV->Prop}{k:Box K}:ZCO P B (.load ty x) fr σ (hold K k)=(aef P B (.load ty x) (ev fr) σ (hold (fun r σ'=>chk (σ'=σ) (hold (K r) .mk)) .mk)):=rfl
theorem ZMY {ty:TypeId}{x v:Operand}{d:Option Nat}{t:TypeId}{p:String}{es:Array Edge}{g:Option (Nat×Bool)}{st:ASt}{K:ASt->Prop}{k:Box K}:aop P B N ⟨d,.store ty x v,t,p,es,g⟩ st (hold K k)=(aef P B (.store ty x v) (ev st.fr) st.σ (hold (fun r σ'=>ZAG N d r st.fr σ' (hold K .mk)) .mk)):=rfl
theorem ZMF {ty:TypeId}{x v:Operand}{fr:Frm}{σ:ZA}{K:AV->Prop}{k:Box K}:ZCO P B (.store ty x v) fr σ (hold K k)=(aef P B (.store ty x v) (ev fr) σ (hold (fun r σ'=>chk (σ'=σ) (hold (K r) .mk)) .mk)):=rfl
theorem ZH9 {x:Operand}{d:Option Nat}{t:TypeId}{p:String}{es:Array Edge}{g:Option (Nat×Bool)}{st:ASt}{K:ASt->Prop}{k:Box K}:aop P B N ⟨d,.nilCheck x,t,p,es,g⟩ st (hold K k)=(aef P B (.nilCheck x) (ev st.fr) st.σ (hold (fun r σ'=>ZAG N d r st.fr σ' (hold K .mk)) .mk)):=rfl
theorem ZHw {x:Operand}{fr:Frm}{σ:ZA}{K:AV->Prop}{k:Box K}:ZCO P B (.nilCheck x) fr σ (hold K k)=(aef P B (.nilCheck x) (ev fr) σ (hold (fun r σ'=>chk (σ'=σ) (hold (K r) .mk)) .mk)):=rfl
theorem ZMc {op:BinOp}{ty:TypeId}{x y:Operand}{ty2:TypeId}{d:Option Nat}{t:TypeId}{p:String}{es:Array Edge}{g:Option (Nat×Bool)}{st:ASt}{K:ASt->Prop}{k:Box K}:aop P B N ⟨d,.binOp op ty x y ty2,t,p,es,g⟩ st (hold K k)=(aef P B (.binOp op ty x y ty2) (ev st.fr) st.σ (hold (fun r σ'=>ZAG N d r st.fr σ' (hold K .mk)) .mk)):=rfl
theorem ZMJ {op:BinOp}{ty:TypeId}{x y:Operand}{ty2:TypeId}{fr:Frm}{σ:ZA}{K:AV->Prop}{k:Box K}:ZCO P B (.binOp op ty x y ty2) fr σ (hold K k)=(aef P B (.binOp op ty x y ty2) (ev fr) σ (hold (fun r σ'=>chk (σ'=σ) (hold (K r) .mk)) .mk)):=rfl
theorem ZOF {op:UnOp}{ty:TypeId}{x:Operand}{d:Option Nat}{t:TypeId}{p:String}{es:Array Edge}{g:Option (Nat×Bool)}{st:ASt}{K:ASt->Prop}{k:Box K}:aop P B N ⟨d,.unOp op ty x,t,p,es,g⟩ st (hold K k)=(aef P B (.unOp op ty x) (ev st.fr) st.σ (hold (fun r σ'=>ZAG N d r st.fr σ' (hold K .mk)) .mk)):=rfl
theorem ZNq {op:UnOp}{ty:TypeId}{x:Operand}{fr:Frm}{σ:ZA}{K:AV->Prop}{k:Box K}:ZCO P B (.unOp op ty x) fr σ (hold K k)=(aef P B (.unOp op ty x) (ev fr) σ (hold (fun r σ'=>chk (σ'=σ) (hold (K r) .mk)) .mk)):=rfl
theorem ZJW {ty ty2:TypeId}{x:Operand}{d:Option Nat}{t:TypeId}{p:String}{es:Array Edge}{g:Option (Nat×Bool)}{st:ASt}{K:ASt->Prop}{k:Box K}:aop P B N ⟨d,.convert ty ty2 x,t,p,es,g⟩ st (hold K k)=(aef P B (.convert ty ty2 x) (ev st.fr) st.σ (hold (fun r σ'=>ZAG N d r st.fr σ' (hold K .mk)) .mk)):=rfl
theorem ZI3 {ty ty2:TypeId}{x:Operand}{fr:Frm}{σ:ZA}{K:AV->Prop}{k:Box K}:ZCO P B (.convert ty ty2 x) fr σ (hold K k)=(aef P B (.convert ty ty2 x) (ev fr) σ (hold (fun r σ'=>chk (σ'=σ) (hold (K r) .mk)) .mk)):=rfl
theorem ZIA {fn:Fn}{first captured:Array Operand}{d:Option Nat}{t:TypeId}{p:String}{es:Array Edge}{g:Option (Nat×Bool)}{st:ASt}{K:ASt->Prop}{k:Box K}:aop P B N ⟨d,.makeFunc fn first captured,t,p,es,g⟩ st (hold K k)=(aef P B (.makeFunc fn first captured) (ev st.fr) st.σ (hold (fun r σ'=>ZAG N d r st.fr σ' (hold K .mk)) .mk)):=rfl
theorem ZHx {fn:Fn}{first captured:Array Operand}{fr:Frm}{σ:ZA}{K:AV->Prop}{k:Box K}:ZCO P B (.makeFunc fn first captured) fr σ (hold K k)=(aef P B (.makeFunc fn first captured) (ev fr) σ (hold (fun r σ'=>chk (σ'=σ) (hold (K r) .mk)) .mk)):=rfl
theorem ZGS {ty:TypeId}{len cap:Operand}{d:Option Nat}{t:TypeId}{p:String}{es:Array Edge}{g:Option (Nat×Bool)}{st:ASt}{K:ASt->Prop}{k:Box K}:aop P B N ⟨d,.makeSlice ty len cap,t,p,es,g⟩ st (hold K k)=(aef P B (.makeSlice ty len cap) (ev st.fr) st.σ (hold (fun r σ'=>ZAG N d r st.fr σ' (hold K .mk)) .mk)):=rfl
theorem ZGG {ty:TypeId}{len cap:Operand}{fr:Frm}{σ:ZA}{K:AV->Prop}{k:Box K}:ZCO P B (.makeSlice ty len cap) fr σ (hold K k)=(aef P B (.makeSlice ty len cap) (ev fr) σ (hold (fun r σ'=>chk (σ'=σ) (hold (K r) .mk)) .mk)):=rfl
theorem ZMZ {ty:TypeId}{x:Operand}{low high mx:Option Operand}{d:Option Nat}{t:TypeId}{p:String}{es:Array Edge}{g:Option (Nat×Bool)}{st:ASt}{K:ASt->Prop}{k:Box K}:aop P B N ⟨d,.slice ty x low high mx,t,p,es,g⟩ st (hold K k)=(aef P B (.slice ty x low high mx) (ev st.fr) st.σ (hold (fun r σ'=>ZAG N d r st.fr σ' (hold K .mk)) .mk)):=rfl
theorem ZMG {ty:TypeId}{x:Operand}{low high mx:Option Operand}{fr:Frm}{σ:ZA}{K:AV->Prop}{k:Box K}:ZCO P B (.slice ty x low high mx) fr σ (hold K k)=(aef P B (.slice ty x low high mx) (ev fr) σ (hold (fun r σ'=>chk (σ'=σ) (hold (K r) .mk)) .mk)):=rfl
theorem ZGU {ty:TypeId}{x:Operand}{f:Nat}{d:Option Nat}{t:TypeId}{p:String}{es:Array Edge}{g:Option (Nat×Bool)}{st:ASt}{K:ASt->Prop}{k:Box K}:aop P B N ⟨d,.fieldAddr ty x f,t,p,es,g⟩ st (hold K k)=(aef P B (.fieldAddr ty x f) (ev st.fr) st.σ (hold (fun r σ'=>ZAG N d r st.fr σ' (hold K .mk)) .mk)):=rfl
theorem ZGI {ty:TypeId}{x:Operand}{f:Nat}{fr:Frm}{σ:ZA}{K:AV->Prop}{k:Box K}:ZCO P B (.fieldAddr ty x f) fr σ (hold K k)=(aef P B (.fieldAddr ty x f) (ev fr) σ (hold (fun r σ'=>chk (σ'=σ) (hold (K r) .mk)) .mk)):=rfl
theorem ZGT {ty:TypeId}{x i:Operand}{d:Option Nat}{t:TypeId}{p:String}{es:Array Edge}{g:Option (Nat×Bool)}{st:ASt}{K:ASt->Prop}{k:Box K}:aop P B N ⟨d,.indexAddr ty x i,t,p,es,g⟩ st (hold K k)=(aef P B (.indexAddr ty x i) (ev st.fr) st.σ (hold (fun r σ'=>ZAG N d r st.fr σ' (hold K .mk)) .mk)):=rfl
theorem ZGH {ty:TypeId}{x i:Operand}{fr:Frm}{σ:ZA}{K:AV->Prop}{k:Box K}:ZCO P B (.indexAddr ty x i) fr σ (hold K k)=(aef P B (.indexAddr ty x i) (ev fr) σ (hold (fun r σ'=>chk (σ'=σ) (hold (K r) .mk)) .mk)):=rfl
theorem ZMa {ty:TypeId}{x i:Operand}{d:Option Nat}{t:TypeId}{p:String}{es:Array Edge}{g:Option (Nat×Bool)}{st:ASt}{K:ASt->Prop}{k:Box K}:aop P B N ⟨d,.index ty x i,t,p,es,g⟩ st (hold K k)=(aef P B (.index ty x i) (ev st.fr) st.σ (hold (fun r σ'=>ZAG N d r st.fr σ' (hold K .mk)) .mk)):=rfl
theorem ZMH {ty:TypeId}{x i:Operand}{fr:Frm}{σ:ZA}{K:AV->Prop}{k:Box K}:ZCO P B (.index ty x i) fr σ (hold K k)=(aef P B (.index ty x i) (ev fr) σ (hold (fun r σ'=>chk (σ'=σ) (hold (K r) .mk)) .mk)):=rfl
theorem ZJV {x:Operand}{i:Nat}{d:Option Nat}{t:TypeId}{p:String}{es:Array Edge}{g:Option (Nat×Bool)}{st:ASt}{K:ASt->Prop}{k:Box K}:aop P B N ⟨d,.extract x i,t,p,es,g⟩ st (hold K k)=(aef P B (.extract x i) (ev st.fr) st.σ (hold (fun r σ'=>ZAG N d r st.fr σ' (hold K .mk)) .mk)):=rfl
theorem ZI2 {x:Operand}{i:Nat}{fr:Frm}{σ:ZA}{K:AV->Prop}{k:Box K}:ZCO P B (.extract x i) fr σ (hold K k)=(aef P B (.extract x i) (ev fr) σ (hold (fun r σ'=>chk (σ'=σ) (hold (K r) .mk)) .mk)):=rfl
theorem ZJX {bi:Builtin}{args:Array Operand}{ts:Array TypeId}{d:Option Nat}{t:TypeId}{p:String}{es:Array Edge}{g:Option (Nat×Bool)}{st:ASt}{K:ASt->Prop}{k:Box K}:aop P B N ⟨d,.call {callee:=.builtin bi,args:=args,argTypes:=ts},t,p,es,g⟩ st (hold K k)=(aef P B (.call {callee:=.builtin bi,args:=args,argTypes:=ts}) (ev st.fr) st.σ (hold (fun r σ'=>ZAG N d r st.fr σ' (hold K .mk)) .mk)):=rfl
theorem ZI4 {bi:Builtin}{args:Array Operand}{ts:Array TypeId}{fr:Frm}{σ:ZA}{K:AV->Prop}{k:Box K}:ZCO P B (.call {callee:=.builtin bi,args:=args,argTypes:=ts}) fr σ (hold K k)=(aef P B (.call {callee:=.builtin bi,args:=args,argTypes:=ts}) (ev fr) σ (hold (fun r σ'=>chk (σ'=σ) (hold (K r) .mk)) .mk)):=rfl
theorem ZOJ {f:Operand}{args:Array Operand}{ts:Array TypeId}{d:Option Nat}{t:TypeId}{p:String}{es:Array Edge}{g:Option (Nat×Bool)}{st:ASt}{K:ASt->Prop}{k:Box K}:aop P B N ⟨d,.call {callee:=.value f,args:=args,argTypes:=ts},t,p,es,g⟩ st (hold K k)=(ZEP P B (ev st.fr f) (args.toList.map (ev st.fr)) st.σ (hold (fun r σ'=>ZAG N d r st.fr σ' (hold K .mk)) .mk)):=rfl
theorem ZNu {f:Operand}{args:Array Operand}{ts:Array TypeId}{fr:Frm}{σ:ZA}{K:AV->Prop}{k:Box K}:ZCO P B (.call {callee:=.value f,args:=args,argTypes:=ts}) fr σ (hold K k)=(PCall P B (ev fr f) (args.toList.map (ev fr)) (hold K .mk)):=rfl
theorem ZMo {f : AV} {args : List AV} {σ : ZA}{K : AV -> ZA -> Prop} {k : Box K} : ZEP P B f args σ (hold K k) = (match f with
    | .fn (.func i) first cap=>ACall P B i (first++args++cap) σ (hold K .mk)
    |_=>False):=by
  cases f<;>try rfl
theorem ZMn {f : AV} {args : List AV}{K : AV -> Prop} {k : Box K} : PCall P B f args (hold K k) = (match f with
    | .fn (.func i) first cap=>ZEQ P B i (first++args++cap) (hold K .mk)
    |_=>False):=by
  cases f<;>try rfl
theorem ZII {r:AV}{fr:Frm}{σ:ZA}{K:ASt->Prop}{k:Box K}:ZAG N none r fr σ (hold K k)=(K ⟨fr,σ⟩):=rfl
theorem ZIH {d:Nat}{r:AV}{fr:Frm}{σ:ZA}{K:ASt->Prop}{k:Box K}(h:d<N):ZAG N (some d) r fr σ (hold K k)=K ⟨(d,r)::fr,σ⟩:=by simp[ZAG,hold,h]
theorem ZMq {ops:Array Oper}{fr:Frm}{σ:ZA}{K:Frm->Prop}{k:Box K}:aP P B N ops [] fr σ (hold K k)=(K fr):=rfl
theorem ZKu {ops:Array Oper}{bo:Box ops}{o:Oper}{rest:List Oper}{fr:Frm}{σ:ZA}{K:Frm->Prop}{k:Box K}:aP P B N (hold ops bo) (o::rest) fr σ (hold K k)=(ZAO (hold ops .mk) fr o.guard (hold (ZCO P B o.op fr σ (hold (fun r=>ZCd N o.dst (hold (aP P B N (hold ops .mk) rest (Zr o.dst r fr) σ (hold K .mk)) .mk)) .mk)) .mk) (hold (ZCd N o.dst (hold (aP P B N (hold ops .mk) rest (Zr o.dst (.lit undef) fr) σ (hold K .mk)) .mk)) .mk)):=by rw[aP];rfl
theorem ZIL {K:Prop}{k:Box K}:ZCd N none (hold K k)=(K):=by simp[ZCd,dOk,hold]
theorem ZIK {d:Nat}{K:Prop}{k:Box K}(h:d<N):ZCd N (some d) (hold K k)=K:=by simp[ZCd,dOk,hold,h]
theorem ZFc {α:Type}{l:List α}:(List.toArray l).toList=(l):=rfl
theorem ZO2 {x:Operand}{ρ:Operand->AV}{σ:ZA}{K:AV->ZA->Prop}{k:Box K}:aef P B (.move x) ρ σ (hold K k)=(K (ρ x) σ):=rfl
theorem ZLJ {x:Operand}{ρ:Operand->AV}{σ:ZA}{K:AV->ZA->Prop}{k:Box K}:aef P B (.assign x) ρ σ (hold K k)=(K (ρ x) σ):=rfl
theorem ZO1 {c a b : Operand}{ρ : Operand -> AV} {σ : ZA}{K : AV -> ZA -> Prop} {k : Box K} : aef P B (.pick c a b) ρ σ (hold K k) = (match ρ c with
    | .lit (.bool v)=>abr (v=true) (hold (K (ρ a) σ) .mk) (hold (K (ρ b) σ) .mk)
    |_=>False):=by
  simp only[aef,hold]
  generalize ρ c=v
  cases v<;>try rfl
  next v=>cases v<;>first|(rename_i v;cases v<;>simp[abr];done)|rfl
theorem ZNI {t : TypeId}{ρ : Operand -> AV} {σ : ZA}{K : AV -> ZA -> Prop} {k : Box K} : aef P B (.alloc t) ρ σ (hold K k) = (match Zt P t with
    |some i=>chk (i.zero≠[]) (hold (K (.ptr σ.length 0) (σ++[.cells (i.zero.map .lit)])) .mk)
    |none=>False):=rfl
theorem ZQC {t:TypeId}{x:Operand}{ρ:Operand->AV}{σ:ZA}{K:AV->ZA->Prop}{k:Box K}:aef P B (.box t x) ρ σ (hold K k)=(AV.cellsK σ (ρ x) (hold (fun cs=>K (.ptr σ.length 0) (σ++[.cells cs])) .mk)):=rfl
theorem ZNG {t:TypeId}{parts:Array (Nat×Operand)}{ρ:Operand->AV}{σ:ZA}{K:AV->ZA->Prop}{k:Box K}:aef P B (.build t parts) ρ σ (hold K k)=(ZBi P t σ (parts.toList.map fun p=>(p.1,ρ p.2)) (hold K .mk)):=rfl
theorem ZFo {t:TypeId}{len:Nat}{parts:Array (Nat×Operand)}{ρ:Operand->AV}{σ:ZA}{K:AV->ZA->Prop}{k:Box K}:aef P B (.buildSlice t len parts) ρ σ (hold K k)=(Zz P B t σ len (parts.toList.map fun p=>(p.1,ρ p.2)) (hold K .mk)):=rfl
theorem ZO3 {t:TypeId}{x:Operand}{ρ:Operand->AV}{σ:ZA}{K:AV->ZA->Prop}{k:Box K}:aef P B (.load t x) ρ σ (hold K k)=(ZCl P t σ (ρ x) (hold (fun r=>K r σ) .mk)):=rfl
theorem ZND {t:TypeId}{a x:Operand}{ρ:Operand->AV}{σ:ZA}{K:AV->ZA->Prop}{k:Box K}:aef P B (.store t a x) ρ σ (hold K k)=(ZDf P t σ (ρ a) (ρ x) (hold (fun σ'=>K (.lit undef) σ') .mk)):=rfl
theorem ZIV {x:Operand}{ρ:Operand->AV}{σ:ZA}{K:AV->ZA->Prop}{k:Box K}:aef P B (.nilCheck x) ρ σ (hold K k)=(chk (ZBm σ (ρ x)) (hold (K (ρ x) σ) .mk)):=rfl
theorem ZNH {op:BinOp}{t yt:TypeId}{x y:Operand}{ρ:Operand->AV}{σ:ZA}{K:AV->ZA->Prop}{k:Box K}:aef P B (.binOp op t x y yt) ρ σ (hold K k)=(ZNR P op t (ρ x) (ρ y) (hold (fun r=>K r σ) .mk)):=rfl
theorem ZO0 {op:UnOp}{t:TypeId}{x:Operand}{ρ:Operand->AV}{σ:ZA}{K:AV->ZA->Prop}{k:Box K}:aef P B (.unOp op t x) ρ σ (hold K k)=(aUn op (ρ x) (hold (fun r=>K r σ) .mk)):=rfl
theorem ZJw {s d:TypeId}{x:Operand}{ρ:Operand->AV}{σ:ZA}{K:AV->ZA->Prop}{k:Box K}:aef P B (.convert s d x) ρ σ (hold K k)=(ZDt P s d σ (ρ x) (hold (fun r=>K r σ) .mk)):=rfl
theorem ZIW {fn:Fn}{first cap:Array Operand}{ρ:Operand->AV}{σ:ZA}{K:AV->ZA->Prop}{k:Box K}:aef P B (.makeFunc fn first cap) ρ σ (hold K k)=(K (.fn fn (first.toList.map ρ) (cap.toList.map ρ)) σ):=rfl
theorem ZGp {t:TypeId}{l c:Operand}{ρ:Operand->AV}{σ:ZA}{K:AV->ZA->Prop}{k:Box K}:aef P B (.makeSlice t l c) ρ σ (hold K k)=(ZAK P B t σ (ρ l) (ρ c) (hold K .mk)):=rfl
theorem ZNE {t:TypeId}{x:Operand}{lo hi mx:Option Operand}{ρ:Operand->AV}{σ:ZA}{K:AV->ZA->Prop}{k:Box K}:aef P B (.slice t x lo hi mx) ρ σ (hold K k)=(ZBg P t σ (ρ x) (lo.map ρ) (hi.map ρ) (mx.map ρ) (hold K .mk)):=rfl
theorem ZGr {t:TypeId}{x:Operand}{f:Nat}{ρ:Operand->AV}{σ:ZA}{K:AV->ZA->Prop}{k:Box K}:aef P B (.fieldAddr t x f) ρ σ (hold K k)=(ZAB P t σ (ρ x) f (hold (fun r=>K r σ) .mk)):=rfl
theorem ZGq {t:TypeId}{x i:Operand}{ρ:Operand->AV}{σ:ZA}{K:AV->ZA->Prop}{k:Box K}:aef P B (.indexAddr t x i) ρ σ (hold K k)=(Zl P t σ (ρ x) (ρ i) (hold (fun r=>K r σ) .mk)):=rfl
theorem ZNF {t:TypeId}{x i:Operand}{ρ:Operand->AV}{σ:ZA}{K:AV->ZA->Prop}{k:Box K}:aef P B (.index t x i) ρ σ (hold K k)=(ZCt P t (ρ x) (ρ i) (hold (fun r=>K r σ) .mk)):=rfl
theorem ZJv {x : Operand} {i : Nat}{ρ : Operand -> AV} {σ : ZA}{K : AV -> ZA -> Prop} {k : Box K} : aef P B (.extract x i) ρ σ (hold K k) = (match ρ x with
    | .tup vs=>chk (i<vs.length) (hold (K (vs.getD i .junk) σ) .mk)
    |_=>False):=rfl
theorem ZQB {x y:Operand}{t t2:TypeId}{ρ:Operand->AV}{σ:ZA}{K:AV->ZA->Prop}{k:Box K}:aef P B (.call {callee:=.builtin .len,args:=List.toArray [x],argTypes:=List.toArray [t]}) ρ σ (hold K k)=(ZLT P t σ (ρ x) (hold (fun r=>K r σ) .mk)):=rfl
theorem ZLK {x y:Operand}{t t2:TypeId}{ρ:Operand->AV}{σ:ZA}{K:AV->ZA->Prop}{k:Box K}:aef P B (.call {callee:=.builtin .append,args:=List.toArray [x,y],argTypes:=List.toArray [t,t2]}) ρ σ (hold K k)=(ZBx P B t t2 σ (ρ x) (ρ y) (hold K .mk)):=rfl
theorem ZP9 {x y : Operand} {t t2 : TypeId}{ρ : Operand -> AV} {σ : ZA}{K : AV -> ZA -> Prop} {k : Box K} : aef P B (.call { callee := .builtin .min, args := List.toArray [x, y], argTypes := List.toArray [t, t2] }) ρ σ (hold K k) = (match ρ x, ρ y with
    | .lit (.int k a),.lit (.int _ b)=>K (.lit (.int k (if b<a then b else a))) σ
    |_,_=>False):=by
  simp only[aef,hold,List.map_cons,List.map_nil]
  unfold ZAj
  generalize ρ x=v;generalize ρ y=u
  cases v<;>try rfl
  next v => cases v <;> try rfl
            cases u<;>try rfl
            next u=>cases u<;>rfl
theorem ZQA {x y : Operand} {t t2 : TypeId}{ρ : Operand -> AV} {σ : ZA}{K : AV -> ZA -> Prop} {k : Box K} : aef P B (.call { callee := .builtin .max, args := List.toArray [x, y], argTypes := List.toArray [t, t2] }) ρ σ (hold K k) = (match ρ x, ρ y with
    | .lit (.int k a),.lit (.int _ b)=>K (.lit (.int k (if b>a then b else a))) σ
    |_,_=>False):=by
  simp only[aef,hold,List.map_cons,List.map_nil]
  unfold ZAj
  generalize ρ x=v;generalize ρ y=u
  cases v<;>try rfl
  next v => cases v <;> try rfl
            cases u<;>try rfl
            next u=>cases u<;>rfl
theorem ZLE {σ:ZA}{x:AV}{K:List AV->Prop}{k:Box K}:AV.cellsK σ x (hold K k)=(match x with
  | .agg cs=>K cs
  | .lit v=>chk (ZB9 v) (hold (K [.lit v]) .mk)
  | .arr es=>K [.arr es]
  | .rptr e o=>K [.rptr e o]
  | .fn f a b=>K [.fn f a b]
  | .own l n=>chk (ok1 σ (.own l n)) (hold (K [.own l n]) .mk)
  | .ptr l n=>chk (ok1 σ (.ptr l n)) (hold (K [.ptr l n]) .mk)
  | .eptr l n i o=>chk (ok1 σ (.eptr l n i o)) (hold (K [.eptr l n i o]) .mk)
  | .junk=>False
  | .pre _ _ _=>False
  | .tup _=>False):=by cases x<;>simp[AV.cellsK,ok1,hold,chk]
theorem ZP6 {e:List AV}{off n:Nat}{K:List AV->Prop}{k:Box K}:rdE e off n (hold K k)=(if off=0/\n=e.length then K e else chk (off+n<=e.length) (hold (K ((e.drop off).take n)) .mk)):=rfl
theorem ZP5 {σ:ZA}{p:AV}{n:Nat}{K:List AV->Prop}{k:Box K}:rdN σ p n (hold K k)=(match p with
  | .rptr e off=>rdE e off n (hold K .mk)
  | .ptr l off=>match σ[l]? with
    |some (.cells cs)=>rdE cs off n (hold K .mk)
    |_=>False
  | .eptr l k i off=>match σ[l]? with
    |some (.elems _ es)=>chk (es.length=k) (hold (chk (i<es.length) (hold (rdE (es.getD i []) off n (hold K .mk)) .mk)) .mk)
    |_=>False
  |_=>False):=rfl
theorem ZP7 {σ:ZA}{p:AV}{K:AV->Prop}{k:Box K}:rd1 σ p (hold K k)=(match p with
  | .rptr e off=>chk (off<e.length) (hold (K (e.getD off .junk)) .mk)
  | .ptr l off=>match σ[l]? with
    |some (.cells cs)=>chk (off<cs.length) (hold (K (cs.getD off .junk)) .mk)
    |_=>False
  | .eptr l k i off=>match σ[l]? with
    |some (.elems _ es)=>chk (es.length=k) (hold (chk (i<es.length) (hold (chk (off<(es.getD i []).length) (hold (K ((es.getD i []).getD off .junk)) .mk)) .mk)) .mk)
    |_=>False
  |_=>False):=rfl
theorem ZM8 {σ:ZA}{t:TypeId}{p:AV}{K:AV->Prop}{k:Box K}:ZCl P t σ p (hold K k)=(match Zt P t with
  |some i=>if i.sh.isAgg then rdN σ p i.size (hold (fun cs=>K (.agg cs)) .mk)else rd1 σ p (hold K .mk)
  |none=>False):=rfl
theorem ZP4 {e cs:List AV}{off:Nat}{K:List AV->Prop}{k:Box K}:wrE e off cs (hold K k)=(if off=0/\cs.length=e.length then K cs
  else chk (off+cs.length<=e.length) (hold (K (e.take off++cs++e.drop (off+cs.length))) .mk)):=rfl
theorem ZP3 {σ:ZA}{p:AV}{cs:List AV}{K:ZA->Prop}{k:Box K}:wrN σ p cs (hold K k)=(match p with
  | .ptr l off=>match σ[l]? with
    |some (.cells old)=>wrE old off cs (hold (fun new=>K (σ.set l (.cells new))) .mk)
    |_=>False
  | .eptr l k i off=>match σ[l]? with
    |some (.elems sz es)=>chk (es.length=k) (hold (chk (i<es.length) (hold (wrE (es.getD i []) off cs (hold (fun new=>K (σ.set l (.elems sz (es.set i (new.map (nzs σ)))))) .mk)) .mk)) .mk)
    |_=>False
  |_=>False):=rfl
theorem ZLF {σ:ZA}{t:TypeId}{p v:AV}{K:ZA->Prop}{k:Box K}:ZDf P t σ p v (hold K k)=(match Zt P t with
  |some i=>AV.cellsK σ v (hold (fun cs=>chk (cs.length=i.size) (hold (chk (Zi σ cs) (hold (wrN σ p cs (hold K .mk)) .mk)) .mk)) .mk)
  |none=>False):=rfl
theorem ZFm {σ:ZA}{t:TypeId}{p:AV}{f:Nat}{K:AV->Prop}{k:Box K}:ZAB P t σ p f (hold K k)=(match Zt P t with
  |some ⟨.struct offs,_,_⟩=>match offs[f]? with
    |some (o,s+1)=>chk (ZBm σ p) (hold (K (p.adv o)) .mk)
    |_=>False
  |_=>False):=rfl
theorem ZFk {σ:ZA}{t:TypeId}{x i:AV}{K:AV->Prop}{k:Box K}:Zl P t σ x i (hold K k)=(match i,Zt P t with
  | .lit (.int _ n),some ⟨.slice sz _ _,_,_⟩=>match x with
    | .arr es=>chk (0<=n) (hold (chk (n.toNat<es.length) (hold (chk ((es.getD n.toNat []).length=sz) (hold (K (.rptr (es.getD n.toNat []) 0)) .mk)) .mk)) .mk)
    | .own l k=>match σ[l]? with
      |some (.elems sz' es)=>chk (es.length=k) (hold (chk (sz'=sz) (hold (chk (0<=n) (hold (chk (n.toNat<k) (hold (K (.eptr l k n.toNat 0)) .mk)) .mk)) .mk)) .mk)
      |_=>False
    |_=>False
  | .lit (.int _ n),some ⟨.array len (sz+1),_,_⟩=>chk (0<=n) (hold (chk (n.toNat<len) (hold (chk (ZBm σ x) (hold (K (x.adv (n.toNat*(sz+1)))) .mk)) .mk)) .mk)
  |_,_=>False):=rfl
theorem ZLH {t:TypeId}{x i:AV}{K:AV->Prop}{k:Box K}:ZCt P t x i (hold K k)=(match x,i with
  | .lit (.string s),.lit (.int _ n)=>chk (P.underlying t=some .string) (hold (chk (0<=n) (hold (chk (n.toNat<s.size) (hold (K (.lit (.int .u8 (byteAt s n.toNat)))) .mk)) .mk)) .mk)
  | .agg cs,.lit (.int _ n)=>match P.underlying t with
    |some (.array len e)=>match Zt P e with
      |some j=>chk (j.sh.isAgg=false) (hold (chk (j.size=1) (hold (chk (len=cs.length) (hold (chk (0<=n) (hold (chk (n.toNat<len) (hold (K (cs.getD n.toNat .junk)) .mk)) .mk)) .mk)) .mk)) .mk)
      |none=>False
    |_=>False
  |_,_=>False):=rfl
theorem ZOy {σ:ZA}{t:TypeId}{x:AV}{K:AV->Prop}{k:Box K}:ZLT P t σ x (hold K k)=(match P.underlying t with
  |some (.slice _)=>match x with
    | .arr es=>K (.lit (.int .i64 es.length))
    | .lit (.slice none 0 0)=>K (.lit (.int .i64 0))
    | .own l k=>K (.lit (.int .i64 k))
    |_=>False
  |some .string=>match x with
    | .lit (.string s)=>K (.lit (.int .i64 s.size))
    |_=>False
  |some (.array n _)=>K (.lit (.int .i64 n))
  |_=>False):=rfl
theorem ZLD {σ:ZA}{x:AV}{K:List (List AV)->Prop}{k:Box K}:ZCs σ x (hold K k)=(match x with
  | .arr es=>K es
  | .lit (.slice none 0 0)=>K []
  | .lit (.slice (some _) 0 _)=>K []
  | .own l k=>match σ[l]? with
    |some (.elems _ es)=>chk (es.length=k) (hold (K es) .mk)
    |_=>False
  |_=>False):=rfl
theorem ZJu {σ:ZA}{t t2:TypeId}{s x:AV}{K:AV->ZA->Prop}{k:Box K}:ZBx P B t t2 σ s x (hold K k)=(match Zt P t,P.underlying t2 with
  |some ⟨.slice sz bytes zs,_,_⟩,some (.slice _)=>
    chk (zs.length=sz) (hold (chk (sz≠0) (hold (chk (bytes≠0) (hold (ZCs σ x (hold (fun new=>chk (ZEl sz new) (hold (chk (ZBB σ new) (hold (
      match s with
      | .lit (.slice none 0 0) => chk (new.length <= B) (hold (chk ((2 * new.length + 1024) * bytes <= 281474976710656) (hold (
          K (.own σ.length new.length) (σ++[.elems sz new])) .mk)) .mk)
      | .own l n=>match σ[l]? with
        | some (.elems sz' es) => chk (es.length = n) (hold (chk (sz' = sz) (hold (chk (n + new.length <= B) (hold (chk ((2 * (n + new.length) + 1024) * bytes <= 281474976710656) (hold (
            K (.own l (n+new.length)) (σ.set l (.elems sz (es++new)))) .mk)) .mk)) .mk)) .mk)
        |_=>False
      |_=>False) .mk)) .mk)) .mk)) .mk)) .mk)) .mk)
  |_,_=>False):=rfl
theorem ZOz {op:BinOp}{t:TypeId}{x y:AV}{K:AV->Prop}{k:Box K}:ZNR P op t x y (hold K k)=(match x,y with
  | .lit (.int k a),.lit (.int k' b)=>chk (k=k') (hold (match op with
    | .add=>K (.lit (.int k (k.wrap (a+b))))
    | .sub=>K (.lit (.int k (k.wrap (a-b))))
    | .mul=>K (.lit (.int k (k.wrap (a*b))))
    | .quo=>chk (b≠0) (hold (K (.lit (.int k (k.wrap (a.tdiv b))))) .mk)
    | .rem=>chk (b≠0) (hold (K (.lit (.int k (a.tmod b)))) .mk)
    | .eql=>K (.lit (.bool (a==b)))
    | .neq=>K (.lit (.bool (a !=b)))
    | .lss=>K (.lit (.bool (a<b)))
    | .leq=>K (.lit (.bool (a<=b)))
    | .gtr=>K (.lit (.bool (a>b)))
    | .geq=>K (.lit (.bool (a≥b)))
    | .xor=>K (.lit (.int k (ZNd k a b)))
    |_=>False) .mk)
  | .lit (.string a),.lit (.string b)=>match op with
    | .add=>chk ((a.size+b.size:Nat)<=9223372036854775807) (hold (K (.lit (.string (a++b)))) .mk)
    | .eql=>K (.lit (.bool (a.toList==b.toList)))
    | .neq=>K (.lit (.bool (!(a.toList==b.toList))))
    |_=>False
  | .lit (.bool a),.lit (.bool b)=>chk (P.underlying t=some .bool) (hold (match op with
    | .eql=>K (.lit (.bool (a==b)))
    | .neq=>K (.lit (.bool (!(a==b))))
    |_=>False) .mk)
  | .agg xs,.agg ys=>match ZAr xs,ZAr ys with
    |some p,some q=>chk (ZB7 P t=true) (hold (match op with
      | .eql=>K (.lit (.bool (dec (eq2 p q))))
      | .neq=>K (.lit (.bool (!dec (eq2 p q))))
      |_=>False) .mk)
    |_,_=>match ZBG xs,ZBG ys with
      |some p,some q=>chk (ZCn P t=true) (hold (match op with
        | .eql=>K (.lit (.bool (dec (eq3 p q))))
        | .neq=>K (.lit (.bool (!dec (eq3 p q))))
        |_=>False) .mk)
      |_,_=>match ZB2 xs,ZB2 ys with
        |some p,some q=>chk (ZD0 P t=true) (hold (match op with
          | .eql=>K (.lit (.bool (dec (eq4 p q))))
          | .neq=>K (.lit (.bool (!dec (eq4 p q))))
          |_=>False) .mk)
        |_,_=>False
  | .arr es,.lit (.slice none 0 0)=>chk (ZF2 P t=true) (hold (chk (es≠[]) (hold (match op with
    | .eql=>K (.lit (.bool false))
    | .neq=>K (.lit (.bool true))
    |_=>False) .mk)) .mk)
  | .lit (.slice a n c),.lit (.slice none 0 0)=>chk (ZF2 P t=true) (hold (match op with
    | .eql=>K (.lit (.bool a.isNone))
    | .neq=>K (.lit (.bool (!a.isNone)))
    |_=>False) .mk)
  |_,_=>False):=rfl
theorem ZP8 {op:UnOp}{x:AV}{K:AV->Prop}{k:Box K}:aUn op x (hold K k)=(match op,x with
  | .not,.lit (.bool b)=>K (.lit (.bool (!b)))
  | .neg,.lit (.int k n)=>K (.lit (.int k (k.wrap (0-n))))
  |_,_=>False):=rfl
theorem ZM9 {s d:TypeId}{σ:ZA}{x:AV}{K:AV->Prop}{k:Box K}:ZDt P s d σ x (hold K k)=(match P.underlying s,P.underlying d,x with
  |some (.int _),some (.int k),.lit (.int _ n)=>K (.lit (.int k (k.wrap n)))
  |some (.slice e),some .string,.arr es=>chk (ZA6 P (some (.slice e))=true) (hold (match u8s es with
    |some ns=>K (.lit (.string (ZC5 ns)))
    |none=>False) .mk)
  |some (.slice e),some .string,.own l n=>chk (ZA6 P (some (.slice e))=true) (hold (match σ[l]? with
    |some (.elems _ es)=>chk (es.length=n) (hold (match u8s es with
      |some ns=>K (.lit (.string (ZC5 ns)))
      |none=>False) .mk)
    |_=>False) .mk)
  |_,_,_=>False):=rfl
theorem ZJt {σ:ZA}{K:List AV->ZA->Prop}{k:Box K}:frz σ [] (hold K k)=(K [] σ):=id rfl
theorem ZIQ {σ:ZA}{x:AV}{r:List AV}{K:List AV->ZA->Prop}{k:Box K}:frz σ (x::r) (hold K k)=(match x with
  | .own l n=>(match σ[l]? with
    |some (.elems _ es)=>chk (es.length=n) (hold (chk (Zg es) (hold (frz (σ.set l .dead) r (hold (fun r' σ'=>K (.arr es::r') σ') .mk)) .mk)) .mk)
    |_=>False)
  | .lit v=>frz σ r (hold (fun r' σ'=>K (.lit v::r') σ') .mk)
  | .arr v=>frz σ r (hold (fun r' σ'=>K (.arr v::r') σ') .mk)
  |y=>frz σ r (hold (fun r' σ'=>K (y::r') σ') .mk)):=by
  simp only[hold]
  cases x with
  |own l n=>simp only[frz];generalize σ[l]? =ob;rcases ob with _|(_|cs|⟨sz,es⟩)<;>rfl
  |_=>rfl
theorem ZIP {σ:ZA}{K:List (List AV)->ZA->Prop}{k:Box K}:ZK4 σ [] (hold K k)=(K [] σ):=id rfl
theorem ZGj {σ:ZA}{x:List AV}{r:List (List AV)}{K:List (List AV)->ZA->Prop}{k:Box K}:ZK4 σ (x::r) (hold K k)=(frz σ x (hold (fun e' σ'=>ZK4 σ' r (hold (fun r' σ''=>K (e'::r') σ'') .mk)) .mk)):=id rfl
theorem ZOw {σ:ZA}{x:AV}{K:AV->ZA->Prop}{k:Box K}:ZJo σ x (hold K k)=(match x with
  | .agg cs=>frz σ cs (hold (fun cs' σ'=>K (.agg cs') σ') .mk)
  | .own l n=>(match σ[l]? with
    |some (.elems _ es)=>chk (es.length=n) (hold (chk (Zg es) (hold (K (.arr es) (σ.set l .dead)) .mk)) .mk)
    |_=>False)
  | .lit v=>K (.lit v) σ
  | .arr v=>K (.arr v) σ
  |y=>K y σ):=by cases x<;>rfl
theorem ZIS {σ:ZA}{K:List AV->ZA->Prop}{k:Box K}:ZJn σ [] (hold K k)=(K [] σ):=rfl
theorem ZGl {σ:ZA}{x:AV}{r:List AV}{K:List AV->ZA->Prop}{k:Box K}:ZJn σ (x::r) (hold K k)=(ZJo σ x (hold (fun x' σ'=>ZJn σ' r (hold (fun r' σ''=>K (x'::r') σ'') .mk)) .mk)):=rfl
theorem ZOv {σ:ZA}{x:AV}{K:AV->ZA->Prop}{k:Box K}:ZIO σ x (hold K k)=(match x with
  | .tup xs=>ZJn σ xs (hold (fun xs' σ'=>K (.tup xs') σ') .mk)
  | .lit v=>K (.lit v) σ
  | .arr v=>K (.arr v) σ
  |y=>ZJo σ y (hold K .mk)):=by cases x<;>rfl
theorem ZIU {σ:ZA}{fr:Frm}{K:List AV->Prop}{k:Box K}:ZBE P σ fr [] (hold K k)=(K []):=rfl
theorem ZIT {σ:ZA}{fr:Frm}{t:Nat}{r:List ResultVar}{K:List AV->Prop}{k:Box K}:ZBE P σ fr (.tmp t::r) (hold K k)=(ZBE P σ fr r (hold (fun xs=>K (lk fr t::xs)) .mk)):=rfl
theorem ZGm {σ:ZA}{fr:Frm}{a:Nat}{t:TypeId}{r:List ResultVar}{K:List AV->Prop}{k:Box K}:ZBE P σ fr (.cell a t::r) (hold K k)=(ZCl P t σ (lk fr a) (hold (fun x=>ZBE P σ fr r (hold (fun xs=>K (x::xs)) .mk)) .mk)):=rfl
theorem ZGn {place:Nat->Option (Nat×Nat)}{σ:ZA}{cs:List AV}{K:List AV->Prop}{k:Box K}:ZBO place σ cs [] (hold K k)=(K cs):=rfl
theorem ZFl {place : Nat -> Option (Nat × Nat)}{σ : ZA}{cs : List AV} {i : Nat} {x : AV} {rest : List (Nat × AV)}{K : List AV -> Prop} {k : Box K} : ZBO place σ cs ((i, x) :: rest) (hold K k) = (match place i with
    |some (off,size)=>AV.cellsK σ x (hold (fun new=>chk (new.length=size) (hold (wrE cs off new (hold (fun cs'=>ZBO place σ cs' rest (hold K .mk)) .mk)) .mk)) .mk)
    |none=>False):=rfl
theorem ZLI {σ:ZA}{t:TypeId}{ps:List (Nat×AV)}{K:AV->ZA->Prop}{k:Box K}:ZBi P t σ ps (hold K k)=(match Zt P t with
  |some ⟨.struct offs,_,z⟩=>chk ((∀p,p∈offs->p.2≠0)) (hold (chk (z≠[]) (hold (ZBO (fun i=>offs[i]?) σ (z.map .lit) ps (hold (fun cs=>bfrz σ cs (hold (fun cs' σ'=>K (.agg cs') σ') .mk)) .mk)) .mk)) .mk)
  |_=>False):=rfl
theorem ZOx {σ:ZA}{cs:List AV}{K:List AV->ZA->Prop}{k:Box K}:bfrz σ cs (hold K k)=(if σ.any isM=true then K cs σ else frz σ cs (hold K .mk)):=rfl
theorem ZM7 {σ:ZA}{es:List (List AV)}{K:List (List AV)->ZA->Prop}{k:Box K}:bfrzs σ es (hold K k)=(if σ.any isK=true/\σ.any isP=true then K es σ else ZK4 σ es (hold K .mk)):=rfl
theorem ZFZ {n:Nat}{es:List (List AV)}:isK (.elems n es)=decide (n=0):=by cases n<;>rfl
theorem ZFa {cs:List AV}:isK (.cells cs)=false:=rfl
theorem ZHT :isK .dead=false:=rfl
theorem ZHS {xs:List AV}{vs:List Value}:isK (.pack xs vs)=false:=rfl
theorem ZFX {n:Nat}{es:List (List AV)}:isP (.elems n es)=false:=rfl
theorem ZFY {cs:List AV}:isP (.cells cs)=false:=rfl
theorem ZHR :isP .dead=false:=rfl
theorem ZHQ {xs:List AV}{vs:List Value}:isP (.pack xs vs)=true:=rfl
theorem ZJj {n:Nat}{es:List (List AV)}:isM (.elems n es)=decide (n=0):=by cases n<;>rfl
theorem ZJk {cs:List AV}:isM (.cells cs)=false:=rfl
theorem ZKs :isM .dead=false:=rfl
theorem ZKr {xs:List AV}{vs:List Value}:isM (.pack xs vs)=true:=rfl
theorem ZIF {n:Nat}{es:List (List AV)}:ZOe (.elems n es)=false:=rfl
theorem ZIG {cs:List AV}:ZOe (.cells cs)=false:=rfl
theorem ZJi :ZOe .dead=false:=rfl
theorem ZJh {xs:List AV}{vs:List Value}:ZOe (.pack xs vs)=true:=rfl
theorem ZFn {σ:ZA}{sz j:Nat}{K:List (List AV)->Prop}{k:Box K}:ZBh σ sz j [] (hold K k)=(K []):=rfl
theorem ZEq {σ:ZA}{sz j i:Nat}{x:AV}{rest:List (Nat×AV)}{K:List (List AV)->Prop}{k:Box K}:ZBh σ sz j ((i,x)::rest) (hold K k)=(chk (i=j) (hold (AV.cellsK σ x (hold (fun e=>chk (e.length=sz) (hold (ZBh σ sz (j+1) rest (hold (fun es=>K (e.map (nzs σ)::es)) .mk)) .mk)) .mk)) .mk)):=rfl
theorem ZEr {σ:ZA}{t:TypeId}{len:Nat}{ps:List (Nat×AV)}{K:AV->ZA->Prop}{k:Box K}:Zz P B t σ len ps (hold K k)=(match Zt P t with
  |some ⟨.slice sz _ z,_,_⟩=>chk (ps.length=len) (hold (chk (len*sz<=16777216) (hold (chk (len<=B) (hold (chk (z.length=sz) (hold (chk (sz≠0) (hold (ZBh σ sz 0 ps (hold (fun es=>bfrzs σ es (hold (fun es' σ'=>K (.own σ'.length len) (σ'++[.elems sz es'])) .mk)) .mk)) .mk)) .mk)) .mk)) .mk)) .mk)
  |_=>False):=rfl
theorem ZFj {σ:ZA}{t:TypeId}{l c:AV}{K:AV->ZA->Prop}{k:Box K}:ZAK P B t σ l c (hold K k)=(match Zt P t,l,c with
  |some ⟨.slice sz bytes z,_,_⟩,.lit (.int _ n),.lit (.int _ n')=>chk (n=n') (hold (chk (0<=n) (hold (chk (n<=9223372036854775807) (hold (chk (bytes*n<=281474976710656) (hold (chk (n.toNat<=B) (hold (chk (z.length=sz) (hold (chk (sz≠0) (hold (K (.own σ.length n.toNat) (σ++[.elems sz (List.replicate n.toNat ((z.map .lit).map (nzs σ)))])) .mk)) .mk)) .mk)) .mk)) .mk)) .mk)) .mk)
  |_,_,_=>False):=rfl
theorem ZLC {x:Option AV}{d:Nat}{K:Nat->Prop}{k:Box K}:ZAa x d (hold K k)=(match x with
  |none=>K d
  |some (.lit (.int _ n))=>chk (0<=n) (hold (K n.toNat) .mk)
  |_=>False):=rfl
theorem ZLG {σ:ZA}{t:TypeId}{x:AV}{lo hi mx:Option AV}{K:AV->ZA->Prop}{k:Box K}:ZBg P t σ x lo hi mx (hold K k)=(match x,mx with
  | .lit (.string s),none=>chk (P.underlying t=some .string) (hold (
    ZAa lo 0 (hold (fun l=>ZAa hi s.size (hold (fun h=>chk (l<=h) (hold (chk (h<=s.size) (hold (K (.lit (.string (s.extract l h))) σ) .mk)) .mk)) .mk)) .mk)) .mk)
  | .arr es,none=>match Zt P t with
    |some ⟨.slice sz _ _,_,_⟩=>chk (ZEl sz es) (hold (
      ZAa lo 0 (hold (fun l=>ZAa hi es.length (hold (fun h=>chk (l<=h) (hold (chk (h<=es.length) (hold (K (.arr ((es.drop l).take (h-l))) σ) .mk)) .mk)) .mk)) .mk)) .mk)
    |_=>False
  | .own l n,none=>match lo,Zt P t with
    |none,some ⟨.slice _ _ _,_,_⟩=>ZAa hi n (hold (fun h=>chk (h<=n) (hold (K (.pre l n h) σ) .mk)) .mk)
    |_,_=>False
  |_,_=>False):=rfl
theorem ZM6 {σ:ZA}{x:AV}:ZBm σ x=(match x with
  | .rptr _ _=>True
  | .ptr l _=>match σ[l]? with
    |some (.cells _)=>True
    |_=>False
  | .eptr l k _ _=>match σ[l]? with
    |some (.elems _ es)=>es.length=k/\es≠[]
    |_=>False
  |_=>False):=rfl
end
attribute [simp ↓] ZEx ZDs ZLM ZKO ZPc ZNo ZEW ZHu ZGF
  ZOg ZKt ZOj ZPx ZOk ZMp ZOh ZOi ZPy ZKM ZPY ZNl ZLN ZQF ZPE ZPf ZKX ZJl ZIJ ZGb ZGa ZOH ZNs ZKe ZKQ ZOG ZNr ZMd ZMK ZPh ZPd ZMb ZMI ZFP ZFG ZOI ZNt ZMY ZMF ZH9 ZHw ZMc ZMJ ZOF ZNq ZJW ZI3 ZIA ZHx ZGS ZGG ZMZ ZMG ZGU ZGI ZGT ZGH ZMa ZMH ZJV ZI2 ZJX ZI4 ZOJ ZNu ZMo ZMn ZII ZIH ZMq ZKu ZIL ZIK ZFc ZO2 ZLJ ZO1 ZNI ZQC ZNG ZFo ZO3 ZND ZIV ZNH ZO0 ZJw ZIW ZGp ZNE ZGr ZGq ZNF ZJv ZQB ZLK ZP9 ZQA ZLE ZP6 ZP5 ZP7 ZM8 ZP4 ZP3 ZLF ZFm ZFk ZLH ZOy ZLD ZJu ZOz ZP8 ZM9 ZJt ZIQ ZIP ZGj ZOw ZIS ZGl ZOv ZIU ZIT ZGm ZGn ZFl ZLI ZOx ZM7 ZFZ ZFa ZHT ZHS ZFX ZFY ZHR ZHQ ZFn ZEq ZEr ZFj ZLC ZLG ZM6
attribute [simp] ZHj ZF8 ZPI u8s ZA6
attribute [simp] ZFZ ZFa ZHT ZHS ZFX ZFY ZHR ZHQ ZJj ZJk ZKs ZKr ZIF ZIG ZJi ZJh nzs
attribute [simp] nz AV.le AV.le.les ZOs ZHo Blk.le pack ZE2 Blk.closed ZAD ZK6 AV.bnd AV.bnd.bnds ev ZBA lk AV.adv Sh.isAgg Zr
theorem ZPB {n:Nat}{v:Value}:AV.closed n (.lit v)↔True:=by simp[AV.closed]
theorem ZNM {n:Nat}:AV.closed n .junk↔True:=by simp[AV.closed]
theorem ZPC {n:Nat}{es:List (List AV)}:AV.closed n (.arr es)↔True:=by simp[AV.closed]
theorem ZNL {n:Nat}{e:List AV}{o:Nat}:AV.closed n (.rptr e o)↔True:=by simp[AV.closed]
theorem ZO9 {n l i k:Nat}:AV.closed n (.pre l i k)↔l<n:=by simp[AV.closed]
theorem ZPA {n l k:Nat}:AV.closed n (.own l k)↔l<n:=by simp[AV.closed]
theorem ZO8 {n l k:Nat}:AV.closed n (.ptr l k)↔l<n:=by simp[AV.closed]
theorem ZNN {n l k i o:Nat}:AV.closed n (.eptr l k i o)↔l<n:=by simp[AV.closed]
theorem ZPD {n:Nat}{cs:List AV}:AV.closed n (.agg cs)↔AV.closed.closeds n cs:=by simp[AV.closed]
theorem ZO7 {n:Nat}{cs:List AV}:AV.closed n (.tup cs)↔AV.closed.closeds n cs:=by simp[AV.closed]
theorem ZQE {n:Nat}{f:Fn}{xs ys:List AV}:AV.closed n (.fn f xs ys)↔AV.closed.closeds n xs/\AV.closed.closeds n ys:=by simp[AV.closed]
theorem ZNJ {n:Nat}:AV.closed.closeds n []↔True:=by simp[AV.closed.closeds]
theorem ZLL {n:Nat}{x:AV}{r:List AV}:AV.closed.closeds n (x::r)↔x.closed n/\AV.closed.closeds n r:=by simp[AV.closed.closeds]
theorem ZN0 {v:Value}:AV.pure (.lit v)↔True:=by simp[AV.pure]
theorem ZMN :AV.pure .junk↔True:=by simp[AV.pure]
theorem ZN1 {es:List (List AV)}:AV.pure (.arr es)↔True:=by simp[AV.pure]
theorem ZMM {e:List AV}{o:Nat}:AV.pure (.rptr e o)↔True:=by simp[AV.pure]
theorem ZNy {l i k:Nat}:AV.pure (.pre l i k)↔False:=by simp[AV.pure]
theorem ZNz {l k:Nat}:AV.pure (.own l k)↔False:=by simp[AV.pure]
theorem ZNx {l k:Nat}:AV.pure (.ptr l k)↔False:=by simp[AV.pure]
theorem ZN2 {cs:List AV}:AV.pure (.agg cs)↔AV.pure.pures cs:=by simp[AV.pure]
theorem ZNw {cs:List AV}:AV.pure (.tup cs)↔AV.pure.pures cs:=by simp[AV.pure]
theorem ZPe {f:Fn}{xs ys:List AV}:AV.pure (.fn f xs ys)↔AV.pure.pures xs/\AV.pure.pures ys:=by simp[AV.pure]
theorem ZML :AV.pure.pures []↔True:=by simp[AV.pure.pures]
theorem ZKR {x:AV}{r:List AV}:AV.pure.pures (x::r)↔x.pure/\AV.pure.pures r:=by simp[AV.pure.pures]
theorem ZKc {b:Bool}:ZB9 (.bool b)↔True:=by simp[ZB9]
theorem ZMU {k:IntKind}{b:Int}:ZB9 (.int k b)↔True:=by simp[ZB9]
theorem ZH5 {b:ByteArray}:ZB9 (.string b)↔True:=by simp[ZB9]
theorem ZJR {a:Option Addr}{l c:Nat}:ZB9 (.slice a l c)↔True:=by simp[ZB9]
theorem ZGP {a:Option Addr}:ZB9 (.pointer a)↔True:=by simp[ZB9]
theorem ZMT {a:Option Nat}:ZB9 (.map a)↔True:=by simp[ZB9]
theorem ZGQ :ZB9 .nilFunc↔True:=by simp[ZB9]
theorem ZOD {σ:ZA}{v:Value}:ok1 σ (.lit v)↔ZB9 v:=by simp[ok1]
theorem ZOE {σ:ZA}{es:List (List AV)}:ok1 σ (.arr es)↔True:=by simp[ok1]
theorem ZMW {σ:ZA}{e:List AV}{o:Nat}:ok1 σ (.rptr e o)↔True:=by simp[ok1]
theorem ZPg {σ:ZA}{f:Fn}{xs ys:List AV}:ok1 σ (.fn f xs ys)↔True:=by simp[ok1]
theorem ZOC {σ:ZA}{l n:Nat}:ok1 σ (.own l n)=(match σ[l]? with|some (.elems _ es)=>es.length=n|_=>False):=rfl
theorem ZOB {σ:ZA}{l n:Nat}:ok1 σ (.ptr l n)=(match σ[l]? with|some (.cells _)=>True|_=>False):=rfl
theorem ZMX {σ:ZA}{l n i o:Nat}:ok1 σ (.eptr l n i o)=(match σ[l]? with|some (.elems _ es)=>es.length=n/\es≠[]|_=>False):=rfl
theorem ZMV {σ:ZA}:Zi σ []↔True:=by simp[Zi]
theorem ZKd {σ:ZA}{x:AV}{r:List AV}:Zi σ (x::r)↔ok1 σ x/\Zi σ r:=by simp[Zi]
attribute [simp] ZO9 ZNy ZPB ZNM ZPC ZNL ZPA ZO8 ZNN ZPD ZO7 ZQE ZNJ ZLL ZN0 ZMN ZN1 ZMM ZNz ZNx ZN2 ZNw ZPe ZML ZKR ZKc ZMU ZH5 ZJR ZGP ZMT ZGQ ZOD ZOE ZMW ZPg ZOC ZOB ZMX ZMV ZKd
end Go.Vl
