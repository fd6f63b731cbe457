/- A part of the proof. -/
import Derived.Test.YtodkbabdaoeooaaDoorVlStep
set_option linter.all false
namespace Go.Vl
open Go Go.RowKit
section
variable {P : Program} {B nb N : Nat}
theorem ZQ0 {Q:Exit->ASt->Prop}{q:Box Q}{st:ASt}:awp P B nb N .skip st (hold Q q)=(Q .normal st):=rfl
theorem ZMq {Q:Exit->ASt->Prop}{q:Box Q}{st:ASt}{id:Nat}{l:List Oper}:awp P B nb N (.region id (List.toArray l) false) st (hold Q q)=(ZI1 P B N (hold (List.toArray l) .mk) l st (hold (Q .normal) .mk)):=by simp only[awp,Bool.false_eq_true,if_false,hold]
theorem ZQ3 {Q:Exit->ASt->Prop}{q:Box Q}{st:ASt}{id:Nat}{ops:Array Oper}:awp P B nb N (.region id ops true) st (hold Q q)=(ADraw P B nb N (hold ops .mk) st (hold (Q .normal) .mk)):=by simp only[awp,if_true,hold]
theorem ZSL {Q:Exit->ASt->Prop}{q:Box Q}{st:ASt}{a b:Code}:awp P B nb N (.seq a b) st (hold Q q)=(awp P B nb N a st (hold (ZRl P B nb N b Q) .mk)):=by simp only[hold];rw[awp];congr
theorem ZQ4 {Q : Exit -> ASt -> Prop} {q : Box Q}{st : ASt}{c : Operand} {a b : Code} : awp P B nb N (.cond c a b) st (hold Q q) = (match ev st.fr c with
    | .lit (.bool v)=>abr (v=true) (hold (awp P B nb N a st (hold Q .mk)) .mk) (hold (awp P B nb N b st (hold Q .mk)) .mk)
    |_=>False):=by
  simp only[awp,hold]
  generalize ev st.fr c=v
  cases v<;>try rfl
  next v=>cases v<;>first|exact ZIE.symm|rfl
theorem ZO0 {Q:Exit->ASt->Prop}{q:Box Q}{st:ASt}{id:Nat}{c:Code}:awp P B nb N (.block id c) st (hold Q q)=(awp P B nb N c st (hold (ZIy id Q) .mk)):=by simp only[hold];rw[awp];congr
theorem ZQ1 {Q:Exit->ASt->Prop}{q:Box Q}{st:ASt}{c:Code}:awp P B nb N (.loop c) st (hold Q q)=(ALoop P B nb N (hold c .mk) st (hold Q .mk)):=rfl
theorem ZQ2 {Q:Exit->ASt->Prop}{q:Box Q}{st:ASt}{i:Nat}:awp P B nb N (.exit i) st (hold Q q)=(Q (.exit i) st):=rfl
theorem ZSM {Q:Exit->ASt->Prop}{q:Box Q}{st:ASt}:awp P B nb N .ret st (hold Q q)=(Q .ret st):=rfl
theorem ZMM {c:Code}{bc:Box c}{Q:Exit->ASt->Prop}{bQ:Box Q}{st:ASt}:ZGC P B nb N (hold c bc) (hold Q bQ) .normal st=Again P B nb N (hold c .mk) (hold Q .mk) st:=rfl
theorem ZR1 {c:Code}{bc:Box c}{Q:Exit->ASt->Prop}{bQ:Box Q}{st:ASt}:ZGC P B nb N (hold c bc) (hold Q bQ) .ret st=Leave B nb N (hold Q .mk) .ret st:=rfl
theorem ZQA {c:Code}{bc:Box c}{Q:Exit->ASt->Prop}{bQ:Box Q}{i:Nat}{st:ASt}:ZGC P B nb N (hold c bc) (hold Q bQ) (.exit i) st=Leave B nb N (hold Q .mk) (.exit i) st:=rfl
theorem ZMK {Q:Exit->ASt->Prop}{st:ASt}{b:Code}:ZRl P B nb N b Q .normal st=(awp P B nb N b st (hold Q .mk)):=rfl
theorem ZRx {Q:Exit->ASt->Prop}{st:ASt}{b:Code}:ZRl P B nb N b Q .ret st=(Q .ret st):=rfl
theorem ZP7 {Q:Exit->ASt->Prop}{st:ASt}{b:Code}{i:Nat}:ZRl P B nb N b Q (.exit i) st=(Q (.exit i) st):=rfl
theorem ZNL {Q:Exit->ASt->Prop}{st:ASt}{i:Nat}:ZIy i Q .normal st=(Q .normal st):=rfl
theorem ZSe {Q:Exit->ASt->Prop}{st:ASt}{i:Nat}:ZIy i Q .ret st=(Q .ret st):=rfl
theorem ZRZ {Q:Exit->ASt->Prop}{st:ASt}{i j:Nat}:ZIy i Q (.exit j) st=(if j=i then Q .normal st else Q (.exit j) st):=rfl
theorem ZR4 {fn:Func}{K:AV->ZA->Prop}{st:ASt}:ZCf P fn K .ret st=(ZBS P st.σ st.fr fn.results.toList (hold (fun xs=>ZLV st.σ (pack xs) (hold K .mk)) .mk)):=rfl
theorem ZMV {fn:Func}{K:AV->ZA->Prop}{st:ASt}:ZCf P fn K .normal st=(ZBS P st.σ st.fr fn.results.toList (hold (fun xs=>ZLV st.σ (pack xs) (hold K .mk)) .mk)):=rfl
theorem ZLS {K:ASt->Prop}{k:Box K}{st:ASt}{ops:Array Oper}:ZI1 P B N ops [] st (hold K k)=(K st):=rfl
theorem ZJk {K:ASt->Prop}{k:Box K}{st:ASt}{ops:Array Oper}{bo:Box ops}{o:Oper}{rest:List Oper}:ZI1 P B N (hold ops bo) (o::rest) st (hold K k)=(ZAU (hold ops .mk) st.fr o.guard (hold (aop P B N o st (hold (fun st'=>ZI1 P B N (hold ops .mk) rest st' (hold K .mk)) .mk)) .mk) (hold (ZAI N o.dst (.lit undef) st.fr st.σ (hold (fun st'=>ZI1 P B N (hold ops .mk) rest st' (hold K .mk)) .mk)) .mk)):=rfl
theorem ZHj {ops:Array Oper}{bo:Box ops}{fr:Frm}{y n:Prop}{b:Box y}{b':Box n}:ZAU (hold ops bo) fr none (hold y b) (hold n b')=(y):=rfl
def ZKO (w:Bool)(v:AV)(y n:Prop):Prop:=match v with
  | .lit (.bool b)=>abr (b=w) (hold y .mk) (hold n .mk)
  | .lit _=>n
  |_=>False
theorem ZI9 {w b:Bool}{y n:Prop}{k:Box y}{k':Box n}:ZKO w (.lit (.bool b)) (hold y k) (hold n k')=abr (b=w) (hold y .mk) (hold n .mk):=rfl
theorem ZHD {w:Bool}{y n:Prop}{k:Box y}{k':Box n}:ZKO w (.lit undef) (hold y k) (hold n k')=n:=rfl
theorem ZHi {ops : Array Oper} {bo : Box ops}{fr : Frm} {j : Nat} {w : Bool} {y n : Prop} {b : Box y} {b' : Box n} : ZAU (hold ops bo) fr (some (j, w)) (hold y b) (hold n b') = (match (ops[j]?).bind (·.dst) with
      |none=>False
      |some d=>ZKO w (lk fr d) (hold y .mk) (hold n .mk)):=by
  simp only[ZAU,hold]
  generalize(ops[j]?).bind (fun x=>x.dst)=od
  cases od with
  |none=>rfl
  |some d=>
    simp only[]
    generalize lk fr d=v
    cases v<;>try rfl
    next v=>cases v<;>first|(simp only[yb,ZKO,Option.some.injEq];exact ZIE.symm)|(simp[yb,ZKO,hold];done)|rfl
theorem ZQc {x:Operand}{d:Option Nat}{t:TypeId}{p:String}{es:Array Edge}{g:Option (Nat×Bool)}{st:ASt}{K:ASt->Prop}{k:Box K}:aop P B N ⟨d,.move x,t,p,es,g⟩ st (hold K k)=(aef P B (.move x) (ev st.fr) st.σ (hold (fun r σ'=>ZAI N d r st.fr σ' (hold K .mk)) .mk)):=rfl
theorem ZQE {x:Operand}{fr:Frm}{σ:ZA}{K:AV->Prop}{k:Box K}:ZCg P B (.move x) fr σ (hold K k)=(aef P B (.move x) (ev fr) σ (hold (fun r σ'=>chk (σ'=σ) (hold (K r) .mk)) .mk)):=rfl
theorem ZMd {x:Operand}{d:Option Nat}{t:TypeId}{p:String}{es:Array Edge}{g:Option (Nat×Bool)}{st:ASt}{K:ASt->Prop}{k:Box K}:aop P B N ⟨d,.assign x,t,p,es,g⟩ st (hold K k)=(aef P B (.assign x) (ev st.fr) st.σ (hold (fun r σ'=>ZAI N d r st.fr σ' (hold K .mk)) .mk)):=rfl
theorem ZMO {x:Operand}{fr:Frm}{σ:ZA}{K:AV->Prop}{k:Box K}:ZCg P B (.assign x) fr σ (hold K k)=(aef P B (.assign x) (ev fr) σ (hold (fun r σ'=>chk (σ'=σ) (hold (K r) .mk)) .mk)):=rfl
theorem ZQb {c a b:Operand}{d:Option Nat}{t:TypeId}{p:String}{es:Array Edge}{g:Option (Nat×Bool)}{st:ASt}{K:ASt->Prop}{k:Box K}:aop P B N ⟨d,.pick c a b,t,p,es,g⟩ st (hold K k)=(aef P B (.pick c a b) (ev st.fr) st.σ (hold (fun r σ'=>ZAI N d r st.fr σ' (hold K .mk)) .mk)):=rfl
theorem ZQD {c a b:Operand}{fr:Frm}{σ:ZA}{K:AV->Prop}{k:Box K}:ZCg P B (.pick c a b) fr σ (hold K k)=(aef P B (.pick c a b) (ev fr) σ (hold (fun r σ'=>chk (σ'=σ) (hold (K r) .mk)) .mk)):=rfl
theorem ZOn {e:TypeId}{d:Option Nat}{t:TypeId}{p:String}{es:Array Edge}{g:Option (Nat×Bool)}{st:ASt}{K:ASt->Prop}{k:Box K}:aop P B N ⟨d,.alloc e,t,p,es,g⟩ st (hold K k)=(aef P B (.alloc e) (ev st.fr) st.σ (hold (fun r σ'=>ZAI N d r st.fr σ' (hold K .mk)) .mk)):=rfl
theorem ZOT {e:TypeId}{fr:Frm}{σ:ZA}{K:AV->Prop}{k:Box K}:ZCg P B (.alloc e) fr σ (hold K k)=(aef P B (.alloc e) (ev fr) σ (hold (fun r σ'=>chk (σ'=σ) (hold (K r) .mk)) .mk)):=rfl
theorem ZR6 {e:TypeId}{x:Operand}{d:Option Nat}{t:TypeId}{p:String}{es:Array Edge}{g:Option (Nat×Bool)}{st:ASt}{K:ASt->Prop}{k:Box K}:aop P B N ⟨d,.box e x,t,p,es,g⟩ st (hold K k)=(aef P B (.box e x) (ev st.fr) st.σ (hold (fun r σ'=>ZAI N d r st.fr σ' (hold K .mk)) .mk)):=rfl
theorem ZR2 {e:TypeId}{x:Operand}{fr:Frm}{σ:ZA}{K:AV->Prop}{k:Box K}:ZCg P B (.box e x) fr σ (hold K k)=(aef P B (.box e x) (ev fr) σ (hold (fun r σ'=>chk (σ'=σ) (hold (K r) .mk)) .mk)):=rfl
theorem ZOl {ty:TypeId}{parts:Array (Nat×Operand)}{d:Option Nat}{t:TypeId}{p:String}{es:Array Edge}{g:Option (Nat×Bool)}{st:ASt}{K:ASt->Prop}{k:Box K}:aop P B N ⟨d,.build ty parts,t,p,es,g⟩ st (hold K k)=(aef P B (.build ty parts) (ev st.fr) st.σ (hold (fun r σ'=>ZAI N d r st.fr σ' (hold K .mk)) .mk)):=rfl
theorem ZOR {ty:TypeId}{parts:Array (Nat×Operand)}{fr:Frm}{σ:ZA}{K:AV->Prop}{k:Box K}:ZCg P B (.build ty parts) fr σ (hold K k)=(aef P B (.build ty parts) (ev fr) σ (hold (fun r σ'=>chk (σ'=σ) (hold (K r) .mk)) .mk)):=rfl
theorem ZGU {ty:TypeId}{len:Nat}{parts:Array (Nat×Operand)}{d:Option Nat}{t:TypeId}{p:String}{es:Array Edge}{g:Option (Nat×Bool)}{st:ASt}{K:ASt->Prop}{k:Box K}:aop P B N ⟨d,.buildSlice ty len parts,t,p,es,g⟩ st (hold K k)=(aef P B (.buildSlice ty len parts) (ev st.fr) st.σ (hold (fun r σ'=>ZAI N d r st.fr σ' (hold K .mk)) .mk)):=rfl
theorem ZGI {ty:TypeId}{len:Nat}{parts:Array (Nat×Operand)}{fr:Frm}{σ:ZA}{K:AV->Prop}{k:Box K}:ZCg P B (.buildSlice ty len parts) fr σ (hold K k)=(aef P B (.buildSlice ty len parts) (ev fr) σ (hold (fun r σ'=>chk (σ'=σ) (hold (K r) .mk)) .mk)):=rfl
theorem ZQd {ty:TypeId}{x:Operand}{d:Option Nat}{t:TypeId}{p:String}{es:Array Edge}{g:Option (Nat×Bool)}{st:ASt}{K:ASt->Prop}{k:Box K}:aop P B N ⟨d,.load ty x,t,p,es,g⟩ st (hold K k)=(aef P B (.load ty x) (ev st.fr) st.σ (hold (fun r σ'=>ZAI N d r st.fr σ' (hold K .mk)) .mk)):=rfl
theorem ZQF {ty:TypeId}{x:Operand}{fr:Frm}{σ:ZA}{K:AV->Prop}{k:Box K}:ZCg P B (.load ty x) fr σ (hold K k)=(aef P B (.load ty x) (ev fr) σ (hold (fun r σ'=>chk (σ'=σ) (hold (K r) .mk)) .mk)):=rfl
theorem ZOi {ty:TypeId}{x v:Operand}{d:Option Nat}{t:TypeId}{p:String}{es:Array Edge}{g:Option (Nat×Bool)}{st:ASt}{K:ASt->Prop}{k:Box K}:aop P B N ⟨d,.store ty x v,t,p,es,g⟩ st (hold K k)=(aef P B (.store ty x v) (ev st.fr) st.σ (hold (fun r σ'=>ZAI N d r st.fr σ' (hold K .mk)) .mk)):=rfl
theorem ZOO {ty:TypeId}{x v:Operand}{fr:Frm}{σ:ZA}{K:AV->Prop}{k:Box K}:ZCg P B (.store ty x v) fr σ (hold K k)=(aef P B (.store ty x v) (ev fr) σ (hold (fun r σ'=>chk (σ'=σ) (hold (K r) .mk)) .mk)):=rfl
theorem ZJa {x:Operand}{d:Option Nat}{t:TypeId}{p:String}{es:Array Edge}{g:Option (Nat×Bool)}{st:ASt}{K:ASt->Prop}{k:Box K}:aop P B N ⟨d,.nilCheck x,t,p,es,g⟩ st (hold K k)=(aef P B (.nilCheck x) (ev st.fr) st.σ (hold (fun r σ'=>ZAI N d r st.fr σ' (hold K .mk)) .mk)):=rfl
theorem ZJM {x:Operand}{fr:Frm}{σ:ZA}{K:AV->Prop}{k:Box K}:ZCg P B (.nilCheck x) fr σ (hold K k)=(aef P B (.nilCheck x) (ev fr) σ (hold (fun r σ'=>chk (σ'=σ) (hold (K r) .mk)) .mk)):=rfl
theorem ZOm {op:BinOp}{ty:TypeId}{x y:Operand}{ty2:TypeId}{d:Option Nat}{t:TypeId}{p:String}{es:Array Edge}{g:Option (Nat×Bool)}{st:ASt}{K:ASt->Prop}{k:Box K}:aop P B N ⟨d,.binOp op ty x y ty2,t,p,es,g⟩ st (hold K k)=(aef P B (.binOp op ty x y ty2) (ev st.fr) st.σ (hold (fun r σ'=>ZAI N d r st.fr σ' (hold K .mk)) .mk)):=rfl
theorem ZOS {op:BinOp}{ty:TypeId}{x y:Operand}{ty2:TypeId}{fr:Frm}{σ:ZA}{K:AV->Prop}{k:Box K}:ZCg P B (.binOp op ty x y ty2) fr σ (hold K k)=(aef P B (.binOp op ty x y ty2) (ev fr) σ (hold (fun r σ'=>chk (σ'=σ) (hold (K r) .mk)) .mk)):=rfl
theorem ZQa {op:UnOp}{ty:TypeId}{x:Operand}{d:Option Nat}{t:TypeId}{p:String}{es:Array Edge}{g:Option (Nat×Bool)}{st:ASt}{K:ASt->Prop}{k:Box K}:aop P B N ⟨d,.unOp op ty x,t,p,es,g⟩ st (hold K k)=(aef P B (.unOp op ty x) (ev st.fr) st.σ (hold (fun r σ'=>ZAI N d r st.fr σ' (hold K .mk)) .mk)):=rfl
theorem ZQC {op:UnOp}{ty:TypeId}{x:Operand}{fr:Frm}{σ:ZA}{K:AV->Prop}{k:Box K}:ZCg P B (.unOp op ty x) fr σ (hold K k)=(aef P B (.unOp op ty x) (ev fr) σ (hold (fun r σ'=>chk (σ'=σ) (hold (K r) .mk)) .mk)):=rfl
theorem ZK9 {ty ty2:TypeId}{x:Operand}{d:Option Nat}{t:TypeId}{p:String}{es:Array Edge}{g:Option (Nat×Bool)}{st:ASt}{K:ASt->Prop}{k:Box K}:aop P B N ⟨d,.convert ty ty2 x,t,p,es,g⟩ st (hold K k)=(aef P B (.convert ty ty2 x) (ev st.fr) st.σ (hold (fun r σ'=>ZAI N d r st.fr σ' (hold K .mk)) .mk)):=rfl
theorem ZKe {ty ty2:TypeId}{x:Operand}{fr:Frm}{σ:ZA}{K:AV->Prop}{k:Box K}:ZCg P B (.convert ty ty2 x) fr σ (hold K k)=(aef P B (.convert ty ty2 x) (ev fr) σ (hold (fun r σ'=>chk (σ'=σ) (hold (K r) .mk)) .mk)):=rfl
theorem ZJb {fn:Fn}{first captured:Array Operand}{d:Option Nat}{t:TypeId}{p:String}{es:Array Edge}{g:Option (Nat×Bool)}{st:ASt}{K:ASt->Prop}{k:Box K}:aop P B N ⟨d,.makeFunc fn first captured,t,p,es,g⟩ st (hold K k)=(aef P B (.makeFunc fn first captured) (ev st.fr) st.σ (hold (fun r σ'=>ZAI N d r st.fr σ' (hold K .mk)) .mk)):=rfl
theorem ZJN {fn:Fn}{first captured:Array Operand}{fr:Frm}{σ:ZA}{K:AV->Prop}{k:Box K}:ZCg P B (.makeFunc fn first captured) fr σ (hold K k)=(aef P B (.makeFunc fn first captured) (ev fr) σ (hold (fun r σ'=>chk (σ'=σ) (hold (K r) .mk)) .mk)):=rfl
theorem ZHa {ty:TypeId}{len cap:Operand}{d:Option Nat}{t:TypeId}{p:String}{es:Array Edge}{g:Option (Nat×Bool)}{st:ASt}{K:ASt->Prop}{k:Box K}:aop P B N ⟨d,.makeSlice ty len cap,t,p,es,g⟩ st (hold K k)=(aef P B (.makeSlice ty len cap) (ev st.fr) st.σ (hold (fun r σ'=>ZAI N d r st.fr σ' (hold K .mk)) .mk)):=rfl
theorem ZHO {ty:TypeId}{len cap:Operand}{fr:Frm}{σ:ZA}{K:AV->Prop}{k:Box K}:ZCg P B (.makeSlice ty len cap) fr σ (hold K k)=(aef P B (.makeSlice ty len cap) (ev fr) σ (hold (fun r σ'=>chk (σ'=σ) (hold (K r) .mk)) .mk)):=rfl
theorem ZOj {ty:TypeId}{x:Operand}{low high mx:Option Operand}{d:Option Nat}{t:TypeId}{p:String}{es:Array Edge}{g:Option (Nat×Bool)}{st:ASt}{K:ASt->Prop}{k:Box K}:aop P B N ⟨d,.slice ty x low high mx,t,p,es,g⟩ st (hold K k)=(aef P B (.slice ty x low high mx) (ev st.fr) st.σ (hold (fun r σ'=>ZAI N d r st.fr σ' (hold K .mk)) .mk)):=rfl
theorem ZOP {ty:TypeId}{x:Operand}{low high mx:Option Operand}{fr:Frm}{σ:ZA}{K:AV->Prop}{k:Box K}:ZCg P B (.slice ty x low high mx) fr σ (hold K k)=(aef P B (.slice ty x low high mx) (ev fr) σ (hold (fun r σ'=>chk (σ'=σ) (hold (K r) .mk)) .mk)):=rfl
theorem ZHc {ty:TypeId}{x:Operand}{f:Nat}{d:Option Nat}{t:TypeId}{p:String}{es:Array Edge}{g:Option (Nat×Bool)}{st:ASt}{K:ASt->Prop}{k:Box K}:aop P B N ⟨d,.fieldAddr ty x f,t,p,es,g⟩ st (hold K k)=(aef P B (.fieldAddr ty x f) (ev st.fr) st.σ (hold (fun r σ'=>ZAI N d r st.fr σ' (hold K .mk)) .mk)):=rfl
theorem ZHQ {ty:TypeId}{x:Operand}{f:Nat}{fr:Frm}{σ:ZA}{K:AV->Prop}{k:Box K}:ZCg P B (.fieldAddr ty x f) fr σ (hold K k)=(aef P B (.fieldAddr ty x f) (ev fr) σ (hold (fun r σ'=>chk (σ'=σ) (hold (K r) .mk)) .mk)):=rfl
theorem ZHb {ty:TypeId}{x i:Operand}{d:Option Nat}{t:TypeId}{p:String}{es:Array Edge}{g:Option (Nat×Bool)}{st:ASt}{K:ASt->Prop}{k:Box K}:aop P B N ⟨d,.indexAddr ty x i,t,p,es,g⟩ st (hold K k)=(aef P B (.indexAddr ty x i) (ev st.fr) st.σ (hold (fun r σ'=>ZAI N d r st.fr σ' (hold K .mk)) .mk)):=rfl
theorem ZHP {ty:TypeId}{x i:Operand}{fr:Frm}{σ:ZA}{K:AV->Prop}{k:Box K}:ZCg P B (.indexAddr ty x i) fr σ (hold K k)=(aef P B (.indexAddr ty x i) (ev fr) σ (hold (fun r σ'=>chk (σ'=σ) (hold (K r) .mk)) .mk)):=rfl
theorem ZOk {ty:TypeId}{x i:Operand}{d:Option Nat}{t:TypeId}{p:String}{es:Array Edge}{g:Option (Nat×Bool)}{st:ASt}{K:ASt->Prop}{k:Box K}:aop P B N ⟨d,.index ty x i,t,p,es,g⟩ st (hold K k)=(aef P B (.index ty x i) (ev st.fr) st.σ (hold (fun r σ'=>ZAI N d r st.fr σ' (hold K .mk)) .mk)):=rfl
theorem ZOQ {ty:TypeId}{x i:Operand}{fr:Frm}{σ:ZA}{K:AV->Prop}{k:Box K}:ZCg P B (.index ty x i) fr σ (hold K k)=(aef P B (.index ty x i) (ev fr) σ (hold (fun r σ'=>chk (σ'=σ) (hold (K r) .mk)) .mk)):=rfl
theorem ZK8 {x:Operand}{i:Nat}{d:Option Nat}{t:TypeId}{p:String}{es:Array Edge}{g:Option (Nat×Bool)}{st:ASt}{K:ASt->Prop}{k:Box K}:aop P B N ⟨d,.extract x i,t,p,es,g⟩ st (hold K k)=(aef P B (.extract x i) (ev st.fr) st.σ (hold (fun r σ'=>ZAI N d r st.fr σ' (hold K .mk)) .mk)):=rfl
theorem ZKd {x:Operand}{i:Nat}{fr:Frm}{σ:ZA}{K:AV->Prop}{k:Box K}:ZCg P B (.extract x i) fr σ (hold K k)=(aef P B (.extract x i) (ev fr) σ (hold (fun r σ'=>chk (σ'=σ) (hold (K r) .mk)) .mk)):=rfl
theorem ZLA {bi:Builtin}{args:Array Operand}{ts:Array TypeId}{d:Option Nat}{t:TypeId}{p:String}{es:Array Edge}{g:Option (Nat×Bool)}{st:ASt}{K:ASt->Prop}{k:Box K}:aop P B N ⟨d,.call {callee:=.builtin bi,args:=args,argTypes:=ts},t,p,es,g⟩ st (hold K k)=(aef P B (.call {callee:=.builtin bi,args:=args,argTypes:=ts}) (ev st.fr) st.σ (hold (fun r σ'=>ZAI N d r st.fr σ' (hold K .mk)) .mk)):=rfl
theorem ZKf {bi:Builtin}{args:Array Operand}{ts:Array TypeId}{fr:Frm}{σ:ZA}{K:AV->Prop}{k:Box K}:ZCg P B (.call {callee:=.builtin bi,args:=args,argTypes:=ts}) fr σ (hold K k)=(aef P B (.call {callee:=.builtin bi,args:=args,argTypes:=ts}) (ev fr) σ (hold (fun r σ'=>chk (σ'=σ) (hold (K r) .mk)) .mk)):=rfl
theorem ZQe {f:Operand}{args:Array Operand}{ts:Array TypeId}{d:Option Nat}{t:TypeId}{p:String}{es:Array Edge}{g:Option (Nat×Bool)}{st:ASt}{K:ASt->Prop}{k:Box K}:aop P B N ⟨d,.call {callee:=.value f,args:=args,argTypes:=ts},t,p,es,g⟩ st (hold K k)=(ZFB P B (ev st.fr f) (args.toList.map (ev st.fr)) st.σ (hold (fun r σ'=>ZAI N d r st.fr σ' (hold K .mk)) .mk)):=rfl
theorem ZQG {f:Operand}{args:Array Operand}{ts:Array TypeId}{fr:Frm}{σ:ZA}{K:AV->Prop}{k:Box K}:ZCg P B (.call {callee:=.value f,args:=args,argTypes:=ts}) fr σ (hold K k)=(PCall P B (ev fr f) (args.toList.map (ev fr)) (hold K .mk)):=rfl
theorem ZOz {f : AV} {args : List AV} {σ : ZA}{K : AV -> ZA -> Prop} {k : Box K} : ZFB P B f args σ (hold K k) = (match f with
    | .fn (.func i) first cap=>ACall P B i (first++args++cap) σ (hold K .mk)
    |_=>False):=by
  cases f<;>try rfl
theorem ZOy {f : AV} {args : List AV}{K : AV -> Prop} {k : Box K} : PCall P B f args (hold K k) = (match f with
    | .fn (.func i) first cap=>ZFC P B i (first++args++cap) (hold K .mk)
    |_=>False):=by
  cases f<;>try rfl
theorem ZJj {r:AV}{fr:Frm}{σ:ZA}{K:ASt->Prop}{k:Box K}:ZAI N none r fr σ (hold K k)=(K ⟨fr,σ⟩):=rfl
theorem ZJi {d:Nat}{r:AV}{fr:Frm}{σ:ZA}{K:ASt->Prop}{k:Box K}(h:d<N):ZAI N (some d) r fr σ (hold K k)=K ⟨(d,r)::fr,σ⟩:=by simp[ZAI,hold,h]
theorem ZO1 {ops:Array Oper}{fr:Frm}{σ:ZA}{K:Frm->Prop}{k:Box K}:aP P B N ops [] fr σ (hold K k)=(K fr):=rfl
theorem ZMr {ops:Array Oper}{bo:Box ops}{o:Oper}{rest:List Oper}{fr:Frm}{σ:ZA}{K:Frm->Prop}{k:Box K}:aP P B N (hold ops bo) (o::rest) fr σ (hold K k)=(ZAU (hold ops .mk) fr o.guard (hold (ZCg P B o.op fr σ (hold (fun r=>ZCx N o.dst (hold (aP P B N (hold ops .mk) rest (Zs o.dst r fr) σ (hold K .mk)) .mk)) .mk)) .mk) (hold (ZCx N o.dst (hold (aP P B N (hold ops .mk) rest (Zs o.dst (.lit undef) fr) σ (hold K .mk)) .mk)) .mk)):=by rw[aP];rfl
theorem ZJm {K:Prop}{k:Box K}:ZCx N none (hold K k)=(K):=by simp[ZCx,dOk,hold]
theorem ZJl {d:Nat}{K:Prop}{k:Box K}(h:d<N):ZCx N (some d) (hold K k)=K:=by simp[ZCx,dOk,hold,h]
theorem ZGg {α:Type}{l:List α}:(List.toArray l).toList=(l):=rfl
theorem ZRM {x:Operand}{ρ:Operand->AV}{σ:ZA}{K:AV->ZA->Prop}{k:Box K}:aef P B (.move x) ρ σ (hold K k)=(K (ρ x) σ):=rfl
theorem ZNH {x:Operand}{ρ:Operand->AV}{σ:ZA}{K:AV->ZA->Prop}{k:Box K}:aef P B (.assign x) ρ σ (hold K k)=(K (ρ x) σ):=rfl
theorem ZRL {c a b : Operand}{ρ : Operand -> AV} {σ : ZA}{K : AV -> ZA -> Prop} {k : Box K} : aef P B (.pick c a b) ρ σ (hold K k) = (match ρ c with
    | .lit (.bool v)=>abr (v=true) (hold (K (ρ a) σ) .mk) (hold (K (ρ b) σ) .mk)
    |_=>False):=by
  simp only[aef,hold]
  generalize ρ c=v
  cases v<;>try rfl
  next v=>cases v<;>first|(rename_i v;cases v<;>simp[abr];done)|rfl
theorem ZPV {t : TypeId}{ρ : Operand -> AV} {σ : ZA}{K : AV -> ZA -> Prop} {k : Box K} : aef P B (.alloc t) ρ σ (hold K k) = (match Zq P t with
    |some i=>chk (i.zero≠[]) (hold (K (.ptr σ.length 0) (σ++[ZBE t i.zero])) .mk)
    |none=>False):=rfl
theorem ZRe {t:TypeId}{k:IntKind}{n:Int}{r:List Value}:ZBE t (.int k n::r)=.cells ((.int k n::r).map .lit):=rfl
theorem ZPj {t:TypeId}{b:Bool}{r:List Value}:ZBE t (.bool b::r)=.cells ((.bool b::r).map .lit):=rfl
theorem ZL1 {t:TypeId}{s:ByteArray}{r:List Value}:ZBE t (.string s::r)=.cells ((.string s::r).map .lit):=rfl
theorem ZNT {t:TypeId}{a:Option Addr}{n c:Nat}{r:List Value}:ZBE t (.slice a n c::r)=.cells ((.slice a n c::r).map .lit):=rfl
theorem ZSf {t:TypeId}{r:List Value}:ZBE t (.nilFunc::r)=.cells ((.nilFunc::r).map .lit):=rfl
theorem ZRd {t:TypeId}{p:Option Addr}:ZBE t [.pointer p]=.cells [.lit (.pointer p)]:=by cases p<;>rfl
theorem ZRf {t:TypeId}:ZBE t [.pointer none,.slice none 0 0]=.tcells (some t) [.junk,.lit (.slice none 0 0)]:=rfl
theorem ZSb {t:TypeId}{x:Operand}{ρ:Operand->AV}{σ:ZA}{K:AV->ZA->Prop}{k:Box K}:aef P B (.box t x) ρ σ (hold K k)=(AV.cellsK σ (ρ x) (hold (fun cs=>K (.ptr σ.length 0) (σ++[.cells cs])) .mk)):=rfl
theorem ZPT {t:TypeId}{parts:Array (Nat×Operand)}{ρ:Operand->AV}{σ:ZA}{K:AV->ZA->Prop}{k:Box K}:aef P B (.build t parts) ρ σ (hold K k)=(ZBv P t σ (parts.toList.map fun p=>(p.1,ρ p.2)) (hold K .mk)):=rfl
theorem ZGv {t:TypeId}{len:Nat}{parts:Array (Nat×Operand)}{ρ:Operand->AV}{σ:ZA}{K:AV->ZA->Prop}{k:Box K}:aef P B (.buildSlice t len parts) ρ σ (hold K k)=(ZAB P B t σ len (parts.toList.map fun p=>(p.1,ρ p.2)) (hold K .mk)):=rfl
theorem ZRN {t:TypeId}{x:Operand}{ρ:Operand->AV}{σ:ZA}{K:AV->ZA->Prop}{k:Box K}:aef P B (.load t x) ρ σ (hold K k)=(ZC6 P t σ (ρ x) (hold (fun r=>K r σ) .mk)):=rfl
theorem ZPQ {t:TypeId}{a x:Operand}{ρ:Operand->AV}{σ:ZA}{K:AV->ZA->Prop}{k:Box K}:aef P B (.store t a x) ρ σ (hold K k)=(ZEO P t σ (ρ a) (ρ x) (hold (fun σ'=>K (.lit undef) σ') .mk)):=rfl
theorem ZJx {x:Operand}{ρ:Operand->AV}{σ:ZA}{K:AV->ZA->Prop}{k:Box K}:aef P B (.nilCheck x) ρ σ (hold K k)=(chk (ZB1 σ (ρ x)) (hold (K (ρ x) σ) .mk)):=rfl
theorem ZPU {op:BinOp}{t yt:TypeId}{x y:Operand}{ρ:Operand->AV}{σ:ZA}{K:AV->ZA->Prop}{k:Box K}:aef P B (.binOp op t x y yt) ρ σ (hold K k)=(ZPi P op t (ρ x) (ρ y) (hold (fun r=>K r σ) .mk)):=rfl
theorem ZRK {op:UnOp}{t:TypeId}{x:Operand}{ρ:Operand->AV}{σ:ZA}{K:AV->ZA->Prop}{k:Box K}:aef P B (.unOp op t x) ρ σ (hold K k)=(aUn op (ρ x) (hold (fun r=>K r σ) .mk)):=rfl
theorem ZLd {s d:TypeId}{x:Operand}{ρ:Operand->AV}{σ:ZA}{K:AV->ZA->Prop}{k:Box K}:aef P B (.convert s d x) ρ σ (hold K k)=(ZEZ P s d σ (ρ x) (hold (fun r=>K r σ) .mk)):=rfl
theorem ZJy {fn:Fn}{first cap:Array Operand}{ρ:Operand->AV}{σ:ZA}{K:AV->ZA->Prop}{k:Box K}:aef P B (.makeFunc fn first cap) ρ σ (hold K k)=(K (.fn fn (first.toList.map ρ) (cap.toList.map ρ)) σ):=rfl
theorem ZH0 {t:TypeId}{l c:Operand}{ρ:Operand->AV}{σ:ZA}{K:AV->ZA->Prop}{k:Box K}:aef P B (.makeSlice t l c) ρ σ (hold K k)=(ZAN P B t σ (ρ l) (ρ c) (hold K .mk)):=rfl
theorem ZPR {t:TypeId}{x:Operand}{lo hi mx:Option Operand}{ρ:Operand->AV}{σ:ZA}{K:AV->ZA->Prop}{k:Box K}:aef P B (.slice t x lo hi mx) ρ σ (hold K k)=(ZBt P t σ (ρ x) (lo.map ρ) (hi.map ρ) (mx.map ρ) (hold K .mk)):=rfl
theorem ZH2 {t:TypeId}{x:Operand}{f:Nat}{ρ:Operand->AV}{σ:ZA}{K:AV->ZA->Prop}{k:Box K}:aef P B (.fieldAddr t x f) ρ σ (hold K k)=(ZAE P t σ (ρ x) f (hold (fun r=>K r σ) .mk)):=rfl
theorem ZH1 {t:TypeId}{x i:Operand}{ρ:Operand->AV}{σ:ZA}{K:AV->ZA->Prop}{k:Box K}:aef P B (.indexAddr t x i) ρ σ (hold K k)=(Zo P t σ (ρ x) (ρ i) (hold (fun r=>K r σ) .mk)):=rfl
theorem ZPS {t:TypeId}{x i:Operand}{ρ:Operand->AV}{σ:ZA}{K:AV->ZA->Prop}{k:Box K}:aef P B (.index t x i) ρ σ (hold K k)=(ZDI P t (ρ x) (ρ i) (hold (fun r=>K r σ) .mk)):=rfl
theorem ZLc {x : Operand} {i : Nat}{ρ : Operand -> AV} {σ : ZA}{K : AV -> ZA -> Prop} {k : Box K} : aef P B (.extract x i) ρ σ (hold K k) = (match ρ x with
    | .tup vs=>chk (i<vs.length) (hold (K (vs.getD i .junk) σ) .mk)
    |_=>False):=rfl
theorem ZSa {x y:Operand}{t t2:TypeId}{ρ:Operand->AV}{σ:ZA}{K:AV->ZA->Prop}{k:Box K}:aef P B (.call {callee:=.builtin .len,args:=List.toArray [x],argTypes:=List.toArray [t]}) ρ σ (hold K k)=(ZNS P t σ (ρ x) (hold (fun r=>K r σ) .mk)):=rfl
theorem ZNI {x y:Operand}{t t2:TypeId}{ρ:Operand->AV}{σ:ZA}{K:AV->ZA->Prop}{k:Box K}:aef P B (.call {callee:=.builtin .append,args:=List.toArray [x,y],argTypes:=List.toArray [t,t2]}) ρ σ (hold K k)=(ZCA P B t t2 σ (ρ x) (ρ y) (hold K .mk)):=rfl
theorem ZSY {x y : Operand} {t t2 : TypeId}{ρ : Operand -> AV} {σ : ZA}{K : AV -> ZA -> Prop} {k : Box K} : aef P B (.call { callee := .builtin .min, args := List.toArray [x, y], argTypes := List.toArray [t, t2] }) ρ σ (hold K k) = (match ρ x, ρ y with
    | .lit (.int k a),.lit (.int _ b)=>K (.lit (.int k (if b<a then b else a))) σ
    |_,_=>False):=by
  simp only[aef,hold,List.map_cons,List.map_nil]
  unfold ZAu
  generalize ρ x=v;generalize ρ y=u
  cases v<;>try rfl
  next v => cases v <;> try rfl
            cases u<;>try rfl
            next u=>cases u<;>rfl
theorem ZSZ {x y : Operand} {t t2 : TypeId}{ρ : Operand -> AV} {σ : ZA}{K : AV -> ZA -> Prop} {k : Box K} : aef P B (.call { callee := .builtin .max, args := List.toArray [x, y], argTypes := List.toArray [t, t2] }) ρ σ (hold K k) = (match ρ x, ρ y with
    | .lit (.int k a),.lit (.int _ b)=>K (.lit (.int k (if b>a then b else a))) σ
    |_,_=>False):=by
  simp only[aef,hold,List.map_cons,List.map_nil]
  unfold ZAu
  generalize ρ x=v;generalize ρ y=u
  cases v<;>try rfl
  next v => cases v <;> try rfl
            cases u<;>try rfl
            next u=>cases u<;>rfl
theorem ZNC {σ:ZA}{x:AV}{K:List AV->Prop}{k:Box K}:AV.cellsK σ x (hold K k)=(match x with
  | .agg cs=>K cs
  | .lit v=>chk (ZDL v) (hold (K [.lit v]) .mk)
  | .arr es=>K [.arr es]
  | .rptr e o=>K [.rptr e o]
  | .fn f a b=>K [.fn f a b]
  | .own l n=>chk (ok1 σ (.own l n)) (hold (K [.own l n]) .mk)
  | .ptr l n=>chk (ok1 σ (.ptr l n)) (hold (K [.ptr l n]) .mk)
  | .eptr l n i o=>chk (ok1 σ (.eptr l n i o)) (hold (K [.eptr l n i o]) .mk)
  | .junk=>False
  | .pre _ _ _=>False
  | .tup _=>False):=by cases x<;>simp[AV.cellsK,ok1,hold,chk]
theorem ZSV {e:List AV}{off n:Nat}{K:List AV->Prop}{k:Box K}:rdE e off n (hold K k)=(if off=0/\n=e.length then K e else chk (off+n<=e.length) (hold (K ((e.drop off).take n)) .mk)):=rfl
theorem ZSU {σ:ZA}{p:AV}{n:Nat}{K:List AV->Prop}{k:Box K}:rdN σ p n (hold K k)=(match p with
  | .rptr e off=>rdE e off n (hold K .mk)
  | .ptr l off=>match σ[l]? with
    |some (.cells cs)=>rdE cs off n (hold K .mk)
    |_=>False
  | .eptr l k i off=>match σ[l]? with
    |some (.elems _ es)=>chk (es.length=k) (hold (chk (i<es.length) (hold (rdE (es.getD i []) off n (hold K .mk)) .mk)) .mk)
    |_=>False
  |_=>False):=rfl
theorem ZSW {σ:ZA}{p:AV}{K:AV->Prop}{k:Box K}:rd1 σ p (hold K k)=(match p with
  | .rptr e off=>chk (off<e.length) (hold (K (e.getD off .junk)) .mk)
  | .ptr l off=>match σ[l]? with
    |some (.cells cs)=>chk (off<cs.length) (hold (K (cs.getD off .junk)) .mk)
    |_=>False
  | .eptr l k i off=>match σ[l]? with
    |some (.elems _ es)=>chk (es.length=k) (hold (chk (i<es.length) (hold (chk (off<(es.getD i []).length) (hold (K ((es.getD i []).getD off .junk)) .mk)) .mk)) .mk)
    |_=>False
  |_=>False):=rfl
theorem ZPL {σ:ZA}{t:TypeId}{p:AV}{K:AV->Prop}{k:Box K}:ZC6 P t σ p (hold K k)=(match Zq P t with
  |some i=>if i.sh.isAgg then rdN σ p i.size (hold (fun cs=>K (.agg cs)) .mk)else rd1 σ p (hold K .mk)
  |none=>False):=rfl
theorem ZST {e cs:List AV}{off:Nat}{K:List AV->Prop}{k:Box K}:wrE e off cs (hold K k)=(if off=0/\cs.length=e.length then K cs
  else chk (off+cs.length<=e.length) (hold (K (e.take off++cs++e.drop (off+cs.length))) .mk)):=rfl
theorem ZSS {σ:ZA}{p:AV}{cs:List AV}{K:ZA->Prop}{k:Box K}:wrN σ p cs (hold K k)=(match p with
  | .ptr l off=>match σ[l]? with
    |some (.cells old)=>wrE old off cs (hold (fun new=>K (σ.set l (.cells new))) .mk)
    |_=>False
  | .eptr l k i off=>match σ[l]? with
    |some (.elems sz es)=>chk (es.length=k) (hold (chk (i<es.length) (hold (wrE (es.getD i []) off cs (hold (fun new=>K (σ.set l (.elems sz (es.set i (new.map (nzs σ)))))) .mk)) .mk)) .mk)
    |_=>False
  |_=>False):=rfl
theorem ZND {σ:ZA}{t:TypeId}{p v:AV}{K:ZA->Prop}{k:Box K}:ZEO P t σ p v (hold K k)=(match Zq P t with
  |some i=>AV.cellsK σ v (hold (fun cs=>chk (cs.length=i.size) (hold (chk (Zl σ cs) (hold (wrN σ p cs (hold K .mk)) .mk)) .mk)) .mk)
  |none=>False):=rfl
theorem ZGt {σ:ZA}{t:TypeId}{p:AV}{f:Nat}{K:AV->Prop}{k:Box K}:ZAE P t σ p f (hold K k)=(match Zq P t with
  |some ⟨.struct offs,_,_⟩=>match offs[f]? with
    |some (o,s+1)=>chk (ZB1 σ p) (hold (K (p.adv o)) .mk)
    |_=>False
  |_=>False):=rfl
theorem ZGr {σ:ZA}{t:TypeId}{x i:AV}{K:AV->Prop}{k:Box K}:Zo P t σ x i (hold K k)=(match i,Zq P t with
  | .lit (.int _ n),some ⟨.slice sz _ _,_,_⟩=>match x with
    | .arr es=>chk (0<=n) (hold (chk (n.toNat<es.length) (hold (chk ((es.getD n.toNat []).length=sz) (hold (K (.rptr (es.getD n.toNat []) 0)) .mk)) .mk)) .mk)
    | .own l k=>match σ[l]? with
      |some (.elems sz' es)=>chk (es.length=k) (hold (chk (sz'=sz) (hold (chk (0<=n) (hold (chk (n.toNat<k) (hold (K (.eptr l k n.toNat 0)) .mk)) .mk)) .mk)) .mk)
      |_=>False
    |_=>False
  | .lit (.int _ n),some ⟨.array len (sz+1),_,_⟩=>chk (0<=n) (hold (chk (n.toNat<len) (hold (chk (ZB1 σ x) (hold (K (x.adv (n.toNat*(sz+1)))) .mk)) .mk)) .mk)
  |_,_=>False):=rfl
theorem ZNF {t:TypeId}{x i:AV}{K:AV->Prop}{k:Box K}:ZDI P t x i (hold K k)=(match x,i with
  | .lit (.string s),.lit (.int _ n)=>chk (P.underlying t=some .string) (hold (chk (0<=n) (hold (chk (n.toNat<s.size) (hold (K (.lit (.int .u8 (byteAt s n.toNat)))) .mk)) .mk)) .mk)
  | .agg cs,.lit (.int _ n)=>match P.underlying t with
    |some (.array len e)=>match Zq P e with
      |some j=>chk (j.sh.isAgg=false) (hold (chk (j.size=1) (hold (chk (len=cs.length) (hold (chk (0<=n) (hold (chk (n.toNat<len) (hold (K (cs.getD n.toNat .junk)) .mk)) .mk)) .mk)) .mk)) .mk)
      |none=>False
    |_=>False
  |_,_=>False):=rfl
theorem ZRI {σ:ZA}{t:TypeId}{x:AV}{K:AV->Prop}{k:Box K}:ZNS P t σ x (hold K k)=(match P.underlying t with
  |some (.slice _)=>match x with
    | .arr es=>K (.lit (.int .i64 es.length))
    | .lit (.slice none 0 0)=>K (.lit (.int .i64 0))
    | .own l k=>K (.lit (.int .i64 k))
    |_=>False
  |some .string=>match x with
    | .lit (.string s)=>K (.lit (.int .i64 s.size))
    |_=>False
  |some (.array n _)=>K (.lit (.int .i64 n))
  |_=>False):=rfl
theorem ZNB {σ:ZA}{x:AV}{K:List (List AV)->Prop}{k:Box K}:ZDH σ x (hold K k)=(match x with
  | .arr es=>K es
  | .lit (.slice none 0 0)=>K []
  | .lit (.slice (some _) 0 _)=>K []
  | .own l k=>match σ[l]? with
    |some (.elems _ es)=>chk (es.length=k) (hold (K es) .mk)
    |_=>False
  |_=>False):=rfl
theorem ZLb {σ:ZA}{t t2:TypeId}{s x:AV}{K:AV->ZA->Prop}{k:Box K}:ZCA P B t t2 σ s x (hold K k)=(match Zq P t,P.underlying t2 with
  |some ⟨.slice sz bytes zs,_,_⟩,some (.slice _)=>
    chk (zs.length=sz) (hold (chk (sz≠0) (hold (chk (bytes≠0) (hold (ZDH σ x (hold (fun new=>chk (ZFd sz new) (hold (chk (ZBF σ new) (hold (
      match s with
      | .lit (.slice none 0 0) => chk (new.length <= bd B) (hold (chk ((2 * new.length + 1024) * bytes <= 281474976710656) (hold (
          K (.own σ.length new.length) (σ++[.elems sz new])) .mk)) .mk)
      | .own l n=>match σ[l]? with
        | some (.elems sz' es) => chk (es.length = n) (hold (chk (sz' = sz) (hold (chk (n + new.length <= bd B) (hold (chk ((2 * (n + new.length) + 1024) * bytes <= 281474976710656) (hold (
            K (.own l (n+new.length)) (σ.set l (.elems sz (es++new)))) .mk)) .mk)) .mk)) .mk)
        |_=>False
      |_=>False) .mk)) .mk)) .mk)) .mk)) .mk)) .mk)
  |_,_=>False):=rfl
theorem ZRJ {op:BinOp}{t:TypeId}{x y:AV}{K:AV->Prop}{k:Box K}:ZPi P op t x y (hold K k)=(match x,y with
  | .lit (.int k a),.lit (.int k' b)=>chk (k=k') (hold (match op with
    | .add=>K (.lit (.int k (k.wrap (a+b))))
    | .sub=>K (.lit (.int k (k.wrap (a-b))))
    | .mul=>K (.lit (.int k (k.wrap (a*b))))
    | .quo=>chk (b≠0) (hold (K (.lit (.int k (k.wrap (a.tdiv b))))) .mk)
    | .rem=>chk (b≠0) (hold (K (.lit (.int k (a.tmod b)))) .mk)
    | .eql=>K (.lit (.bool (a==b)))
    | .neq=>K (.lit (.bool (a !=b)))
    | .lss=>K (.lit (.bool (a<b)))
    | .leq=>K (.lit (.bool (a<=b)))
    | .gtr=>K (.lit (.bool (a>b)))
    | .geq=>K (.lit (.bool (a≥b)))
    | .xor=>K (.lit (.int k (ZPy k a b)))
    |_=>False) .mk)
  | .lit (.string a),.lit (.string b)=>match op with
    | .add=>chk ((a.size+b.size:Nat)<=9223372036854775807) (hold (K (.lit (.string (a++b)))) .mk)
    | .eql=>K (.lit (.bool (a.toList==b.toList)))
    | .neq=>K (.lit (.bool (!(a.toList==b.toList))))
    |_=>False
  | .lit (.bool a),.lit (.bool b)=>chk (P.underlying t=some .bool) (hold (match op with
    | .eql=>K (.lit (.bool (a==b)))
    | .neq=>K (.lit (.bool (!(a==b))))
    |_=>False) .mk)
  | .agg xs,.agg ys=>match ZAz xs,ZAz ys with
    |some p,some q=>chk (ZCP P t=true) (hold (match op with
      | .eql=>K (.lit (.bool (dec (eq2 p q))))
      | .neq=>K (.lit (.bool (!dec (eq2 p q))))
      |_=>False) .mk)
    |_,_=>match ZBH xs,ZBH ys with
      |some p,some q=>chk (ZDA P t=true) (hold (match op with
        | .eql=>K (.lit (.bool (dec (eq3 p q))))
        | .neq=>K (.lit (.bool (!dec (eq3 p q))))
        |_=>False) .mk)
      |_,_=>match ZCI xs,ZCI ys with
        |some p,some q=>chk (ZEi P t=true) (hold (match op with
          | .eql=>K (.lit (.bool (dec (eq4 p q))))
          | .neq=>K (.lit (.bool (!dec (eq4 p q))))
          |_=>False) .mk)
        |_,_=>False
  | .arr es,.lit (.slice none 0 0)=>chk (ZFf P t=true) (hold (chk (es≠[]) (hold (match op with
    | .eql=>K (.lit (.bool false))
    | .neq=>K (.lit (.bool true))
    |_=>False) .mk)) .mk)
  | .lit (.slice a n c),.lit (.slice none 0 0)=>chk (ZFf P t=true) (hold (match op with
    | .eql=>K (.lit (.bool a.isNone))
    | .neq=>K (.lit (.bool (!a.isNone)))
    |_=>False) .mk)
  |_,_=>False):=rfl
theorem ZSX {op:UnOp}{x:AV}{K:AV->Prop}{k:Box K}:aUn op x (hold K k)=(match op,x with
  | .not,.lit (.bool b)=>K (.lit (.bool (!b)))
  | .neg,.lit (.int k n)=>K (.lit (.int k (k.wrap (0-n))))
  |_,_=>False):=rfl
theorem ZPM {s d:TypeId}{σ:ZA}{x:AV}{K:AV->Prop}{k:Box K}:ZEZ P s d σ x (hold K k)=(match P.underlying s,P.underlying d,x with
  |some (.int _),some (.int k),.lit (.int _ n)=>K (.lit (.int k (k.wrap n)))
  |some (.slice e),some .string,.arr es=>chk (ZBC P (some (.slice e))=true) (hold (match u8s es with
    |some ns=>K (.lit (.string (ZDB ns)))
    |none=>False) .mk)
  |some (.slice e),some .string,.own l n=>chk (ZBC P (some (.slice e))=true) (hold (match σ[l]? with
    |some (.elems _ es)=>chk (es.length=n) (hold (match u8s es with
      |some ns=>K (.lit (.string (ZDB ns)))
      |none=>False) .mk)
    |_=>False) .mk)
  |_,_,_=>False):=rfl
theorem ZLa {σ:ZA}{K:List AV->ZA->Prop}{k:Box K}:frz σ [] (hold K k)=(K [] σ):=id rfl
theorem ZJs {σ:ZA}{x:AV}{r:List AV}{K:List AV->ZA->Prop}{k:Box K}:frz σ (x::r) (hold K k)=(match x with
  | .own l n=>(match σ[l]? with
    |some (.elems _ es)=>chk (es.length=n) (hold (chk (Zj es) (hold (frz (σ.set l .dead) r (hold (fun r' σ'=>K (.arr es::r') σ') .mk)) .mk)) .mk)
    |_=>False)
  | .lit v=>frz σ r (hold (fun r' σ'=>K (.lit v::r') σ') .mk)
  | .arr v=>frz σ r (hold (fun r' σ'=>K (.arr v::r') σ') .mk)
  |y=>frz σ r (hold (fun r' σ'=>K (y::r') σ') .mk)):=by
  simp only[hold]
  cases x with
  |own l n=>simp only[frz];generalize σ[l]? =ob;rcases ob with _|(_|⟨(_|_),cs⟩|⟨(_|_),sz,es⟩)<;>rfl
  |_=>rfl
theorem ZJr {σ:ZA}{K:List (List AV)->ZA->Prop}{k:Box K}:ZM1 σ [] (hold K k)=(K [] σ):=id rfl
theorem ZHu {σ:ZA}{x:List AV}{r:List (List AV)}{K:List (List AV)->ZA->Prop}{k:Box K}:ZM1 σ (x::r) (hold K k)=(frz σ x (hold (fun e' σ'=>ZM1 σ' r (hold (fun r' σ''=>K (e'::r') σ'') .mk)) .mk)):=id rfl
theorem ZRG {σ:ZA}{x:AV}{K:AV->ZA->Prop}{k:Box K}:ZHl σ x (hold K k)=(match x with
  | .agg cs=>frz σ cs (hold (fun cs' σ'=>K (.agg cs') σ') .mk)
  | .own l n=>(match σ[l]? with
    |some (.elems _ es)=>chk (es.length=n) (hold (chk (Zj es) (hold (K (.arr es) (σ.set l .dead)) .mk)) .mk)
    |_=>False)
  | .lit v=>K (.lit v) σ
  | .arr v=>K (.arr v) σ
  |y=>K y σ):=by cases x<;>rfl
theorem ZJu {σ:ZA}{K:List AV->ZA->Prop}{k:Box K}:ZLU σ [] (hold K k)=(K [] σ):=rfl
theorem ZHw {σ:ZA}{x:AV}{r:List AV}{K:List AV->ZA->Prop}{k:Box K}:ZLU σ (x::r) (hold K k)=(ZHl σ x (hold (fun x' σ'=>ZLU σ' r (hold (fun r' σ''=>K (x'::r') σ'') .mk)) .mk)):=rfl
theorem ZRF {σ:ZA}{x:AV}{K:AV->ZA->Prop}{k:Box K}:ZLV σ x (hold K k)=(match x with
  | .tup xs=>ZLU σ xs (hold (fun xs' σ'=>K (.tup xs') σ') .mk)
  | .lit v=>K (.lit v) σ
  | .arr v=>K (.arr v) σ
  |y=>ZHl σ y (hold K .mk)):=by cases x<;>rfl
theorem ZJw {σ:ZA}{fr:Frm}{K:List AV->Prop}{k:Box K}:ZBS P σ fr [] (hold K k)=(K []):=rfl
theorem ZJv {σ:ZA}{fr:Frm}{t:Nat}{r:List ResultVar}{K:List AV->Prop}{k:Box K}:ZBS P σ fr (.tmp t::r) (hold K k)=(ZBS P σ fr r (hold (fun xs=>K (lk fr t::xs)) .mk)):=rfl
theorem ZHx {σ:ZA}{fr:Frm}{a:Nat}{t:TypeId}{r:List ResultVar}{K:List AV->Prop}{k:Box K}:ZBS P σ fr (.cell a t::r) (hold K k)=(ZC6 P t σ (lk fr a) (hold (fun x=>ZBS P σ fr r (hold (fun xs=>K (x::xs)) .mk)) .mk)):=rfl
theorem ZHy {place:Nat->Option (Nat×Nat)}{σ:ZA}{cs:List AV}{K:List AV->Prop}{k:Box K}:ZBU place σ cs [] (hold K k)=(K cs):=rfl
theorem ZGs {place : Nat -> Option (Nat × Nat)}{σ : ZA}{cs : List AV} {i : Nat} {x : AV} {rest : List (Nat × AV)}{K : List AV -> Prop} {k : Box K} : ZBU place σ cs ((i, x) :: rest) (hold K k) = (match place i with
    |some (off,size)=>AV.cellsK σ x (hold (fun new=>chk (new.length=size) (hold (wrE cs off new (hold (fun cs'=>ZBU place σ cs' rest (hold K .mk)) .mk)) .mk)) .mk)
    |none=>False):=rfl
theorem ZNG {σ:ZA}{t:TypeId}{ps:List (Nat×AV)}{K:AV->ZA->Prop}{k:Box K}:ZBv P t σ ps (hold K k)=(match Zq P t with
  |some ⟨.struct offs,_,z⟩=>chk ((∀p,p∈offs->p.2≠0)) (hold (chk (z≠[]) (hold (ZBU (fun i=>offs[i]?) σ (z.map .lit) ps (hold (fun cs=>bfrz σ cs (hold (fun cs' σ'=>K (.agg cs') σ') .mk)) .mk)) .mk)) .mk)
  |_=>False):=rfl
theorem ZRH {σ:ZA}{cs:List AV}{K:List AV->ZA->Prop}{k:Box K}:bfrz σ cs (hold K k)=(if σ.any isM=true then K cs σ else frz σ cs (hold K .mk)):=rfl
theorem ZPK {σ:ZA}{es:List (List AV)}{K:List (List AV)->ZA->Prop}{k:Box K}:bfrzs σ es (hold K k)=(if σ.any isK=true/\σ.any isP=true then K es σ else ZM1 σ es (hold K .mk)):=rfl
theorem ZGd {n:Nat}{es:List (List AV)}:isK (.elems n es)=decide (n=0):=by cases n<;>rfl
theorem ZGe {cs:List AV}:isK (.cells cs)=false:=rfl
theorem ZIp :isK .dead=false:=rfl
theorem ZIo {xs:List AV}{vs:List Value}:isK (.pack xs vs)=false:=rfl
theorem ZGb {n:Nat}{es:List (List AV)}:isP (.elems n es)=false:=rfl
theorem ZGc {cs:List AV}:isP (.cells cs)=false:=rfl
theorem ZIn :isP .dead=false:=rfl
theorem ZIm {xs:List AV}{vs:List Value}:isP (.pack xs vs)=true:=rfl
theorem ZLO {n:Nat}{es:List (List AV)}:isM (.elems n es)=decide (n=0):=by cases n<;>rfl
theorem ZLP {cs:List AV}:isM (.cells cs)=false:=rfl
theorem ZMp :isM .dead=false:=rfl
theorem ZMo {xs:List AV}{vs:List Value}:isM (.pack xs vs)=true:=rfl
theorem ZJg {n:Nat}{es:List (List AV)}:ZQy (.elems n es)=false:=rfl
theorem ZJh {cs:List AV}:ZQy (.cells cs)=false:=rfl
theorem ZLN :ZQy .dead=false:=rfl
theorem ZLM {xs:List AV}{vs:List Value}:ZQy (.pack xs vs)=true:=rfl
theorem ZGu {σ:ZA}{sz j:Nat}{K:List (List AV)->Prop}{k:Box K}:ZBu σ sz j [] (hold K k)=(K []):=rfl
theorem ZFj {σ:ZA}{sz j i:Nat}{x:AV}{rest:List (Nat×AV)}{K:List (List AV)->Prop}{k:Box K}:ZBu σ sz j ((i,x)::rest) (hold K k)=(chk (i=j) (hold (AV.cellsK σ x (hold (fun e=>chk (e.length=sz) (hold (ZBu σ sz (j+1) rest (hold (fun es=>K (e.map (nzs σ)::es)) .mk)) .mk)) .mk)) .mk)):=rfl
theorem ZFk {σ:ZA}{t:TypeId}{len:Nat}{ps:List (Nat×AV)}{K:AV->ZA->Prop}{k:Box K}:ZAB P B t σ len ps (hold K k)=(match Zq P t with
  |some ⟨.slice sz _ z,_,_⟩=>chk (ps.length=len) (hold (chk (len*sz<=16777216) (hold (chk (len<=bd B) (hold (chk (z.length=sz) (hold (chk (sz≠0) (hold (ZBu σ sz 0 ps (hold (fun es=>bfrzs σ es (hold (fun es' σ'=>K (.own σ'.length len) (σ'++[.elems sz es'])) .mk)) .mk)) .mk)) .mk)) .mk)) .mk)) .mk)
  |_=>False):=rfl
theorem ZGq {σ:ZA}{t:TypeId}{l c:AV}{K:AV->ZA->Prop}{k:Box K}:ZAN P B t σ l c (hold K k)=(match Zq P t,l,c with
  |some ⟨.slice sz bytes z,_,_⟩,.lit (.int _ n),.lit (.int _ n')=>chk (n=n') (hold (chk (0<=n) (hold (chk (n<=9223372036854775807) (hold (chk (bytes*n<=281474976710656) (hold (chk (n.toNat<=bd B) (hold (chk (z.length=sz) (hold (chk (sz≠0) (hold (K (.own σ.length n.toNat) (σ++[.elems sz (List.replicate n.toNat ((z.map .lit).map (nzs σ)))])) .mk)) .mk)) .mk)) .mk)) .mk)) .mk)) .mk)
  |_,_,_=>False):=rfl
theorem ZNA {x:Option AV}{d:Nat}{K:Nat->Prop}{k:Box K}:ZAg x d (hold K k)=(match x with
  |none=>K d
  |some (.lit (.int _ n))=>chk (0<=n) (hold (K n.toNat) .mk)
  |_=>False):=rfl
theorem ZNE {σ:ZA}{t:TypeId}{x:AV}{lo hi mx:Option AV}{K:AV->ZA->Prop}{k:Box K}:ZBt P t σ x lo hi mx (hold K k)=(match x,mx with
  | .lit (.string s),none=>chk (P.underlying t=some .string) (hold (
    ZAg lo 0 (hold (fun l=>ZAg hi s.size (hold (fun h=>chk (l<=h) (hold (chk (h<=s.size) (hold (K (.lit (.string (s.extract l h))) σ) .mk)) .mk)) .mk)) .mk)) .mk)
  | .arr es,none=>match Zq P t with
    |some ⟨.slice sz _ _,_,_⟩=>chk (ZFd sz es) (hold (
      ZAg lo 0 (hold (fun l=>ZAg hi es.length (hold (fun h=>chk (l<=h) (hold (chk (h<=es.length) (hold (K (.arr ((es.drop l).take (h-l))) σ) .mk)) .mk)) .mk)) .mk)) .mk)
    |_=>False
  | .own l n,none=>match lo,Zq P t with
    |none,some ⟨.slice _ _ _,_,_⟩=>ZAg hi n (hold (fun h=>chk (h<=n) (hold (K (.pre l n h) σ) .mk)) .mk)
    |_,_=>False
  |_,_=>False):=rfl
theorem ZPJ {σ:ZA}{x:AV}:ZB1 σ x=(match x with
  | .rptr _ _=>True
  | .ptr l _=>match σ[l]? with
    |some (.cells _)=>True
    |_=>False
  | .eptr l k _ _=>match σ[l]? with
    |some (.elems _ es)=>es.length=k/\es≠[]
    |_=>False
  |_=>False):=rfl
end
attribute [simp ↓] ZFy ZEY ZNK ZMM ZR1 ZQA ZFN ZJK ZHN
  ZQ0 ZMq ZQ3 ZSL ZQ4 ZO0 ZQ1 ZQ2 ZSM ZMK ZRx ZP7 ZNL ZSe ZRZ ZR4 ZMV ZLS ZJk ZHj ZHi ZQc ZQE ZMd ZMO ZQb ZQD ZOn ZOT ZR6 ZR2 ZOl ZOR ZGU ZGI ZQd ZQF ZOi ZOO ZJa ZJM ZOm ZOS ZQa ZQC ZK9 ZKe ZJb ZJN ZHa ZHO ZOj ZOP ZHc ZHQ ZHb ZHP ZOk ZOQ ZK8 ZKd ZLA ZKf ZQe ZQG ZOz ZOy ZJj ZJi ZO1 ZMr ZJm ZJl ZGg ZRM ZNH ZRL ZPV ZRe ZPj ZL1 ZNT ZSf ZRd ZRf ZSb ZPT ZGv ZRN ZPQ ZJx ZPU ZRK ZLd ZJy ZH0 ZPR ZH2 ZH1 ZPS ZLc ZSa ZNI ZSY ZSZ ZNC ZSV ZSU ZSW ZPL ZST ZSS ZND ZGt ZGr ZNF ZRI ZNB ZLb ZRJ ZSX ZPM ZLa ZJs ZJr ZHu ZRG ZJu ZHw ZRF ZJw ZJv ZHx ZHy ZGs ZNG ZRH ZPK ZGd ZGe ZIp ZIo ZGb ZGc ZIn ZIm ZGu ZFj ZFk ZGq ZNA ZNE ZPJ
attribute [simp] ZI9 ZHD ZRj u8s ZBC
attribute [simp] ZGd ZGe ZIp ZIo ZGb ZGc ZIn ZIm ZLO ZLP ZMp ZMo ZJg ZJh ZLN ZLM nzs
attribute [simp] nz AV.le AV.le.les ZRC ZF8 Blk.le pack ZF2 Blk.closed Zy ZM3 AV.bnd AV.bnd.bnds ev ZBL lk AV.adv Sh.isAgg Zs
theorem ZRV {n:Nat}{v:Value}:AV.closed n (.lit v)↔True:=by simp[AV.closed]
theorem ZPZ {n:Nat}:AV.closed n .junk↔True:=by simp[AV.closed]
theorem ZRW {n:Nat}{es:List (List AV)}:AV.closed n (.arr es)↔True:=by simp[AV.closed]
theorem ZPY {n:Nat}{e:List AV}{o:Nat}:AV.closed n (.rptr e o)↔True:=by simp[AV.closed]
theorem ZRT {n l i k:Nat}:AV.closed n (.pre l i k)↔l<n:=by simp[AV.closed]
theorem ZRU {n l k:Nat}:AV.closed n (.own l k)↔l<n:=by simp[AV.closed]
theorem ZRS {n l k:Nat}:AV.closed n (.ptr l k)↔l<n:=by simp[AV.closed]
theorem ZPa {n l k i o:Nat}:AV.closed n (.eptr l k i o)↔l<n:=by simp[AV.closed]
theorem ZRX {n:Nat}{cs:List AV}:AV.closed n (.agg cs)↔AV.closed.closeds n cs:=by simp[AV.closed]
theorem ZRR {n:Nat}{cs:List AV}:AV.closed n (.tup cs)↔AV.closed.closeds n cs:=by simp[AV.closed]
theorem ZSd {n:Nat}{f:Fn}{xs ys:List AV}:AV.closed n (.fn f xs ys)↔AV.closed.closeds n xs/\AV.closed.closeds n ys:=by simp[AV.closed]
theorem ZPW {n:Nat}:AV.closed.closeds n []↔True:=by simp[AV.closed.closeds]
theorem ZNJ {n:Nat}{x:AV}{r:List AV}:AV.closed.closeds n (x::r)↔x.closed n/\AV.closed.closeds n r:=by simp[AV.closed.closeds]
theorem ZQM {v:Value}:AV.pure (.lit v)↔True:=by simp[AV.pure]
theorem ZOW :AV.pure .junk↔True:=by simp[AV.pure]
theorem ZQN {es:List (List AV)}:AV.pure (.arr es)↔True:=by simp[AV.pure]
theorem ZOV {e:List AV}{o:Nat}:AV.pure (.rptr e o)↔True:=by simp[AV.pure]
theorem ZQK {l i k:Nat}:AV.pure (.pre l i k)↔False:=by simp[AV.pure]
theorem ZQL {l k:Nat}:AV.pure (.own l k)↔False:=by simp[AV.pure]
theorem ZQJ {l k:Nat}:AV.pure (.ptr l k)↔False:=by simp[AV.pure]
theorem ZQO {cs:List AV}:AV.pure (.agg cs)↔AV.pure.pures cs:=by simp[AV.pure]
theorem ZQI {cs:List AV}:AV.pure (.tup cs)↔AV.pure.pures cs:=by simp[AV.pure]
theorem ZR3 {f:Fn}{xs ys:List AV}:AV.pure (.fn f xs ys)↔AV.pure.pures xs/\AV.pure.pures ys:=by simp[AV.pure]
theorem ZOU :AV.pure.pures []↔True:=by simp[AV.pure.pures]
theorem ZMP {x:AV}{r:List AV}:AV.pure.pures (x::r)↔x.pure/\AV.pure.pures r:=by simp[AV.pure.pures]
theorem ZMb {b:Bool}:ZDL (.bool b)↔True:=by simp[ZDL]
theorem ZOe {k:IntKind}{b:Int}:ZDL (.int k b)↔True:=by simp[ZDL]
theorem ZJW {b:ByteArray}:ZDL (.string b)↔True:=by simp[ZDL]
theorem ZK2 {a:Option Addr}{l c:Nat}:ZDL (.slice a l c)↔True:=by simp[ZDL]
theorem ZHX {a:Option Addr}:ZDL (.pointer a)↔True:=by simp[ZDL]
theorem ZOd {a:Option Nat}:ZDL (.map a)↔True:=by simp[ZDL]
theorem ZHY :ZDL .nilFunc↔True:=by simp[ZDL]
theorem ZQY {σ:ZA}{v:Value}:ok1 σ (.lit v)↔ZDL v:=by simp[ok1]
theorem ZQZ {σ:ZA}{es:List (List AV)}:ok1 σ (.arr es)↔True:=by simp[ok1]
theorem ZOg {σ:ZA}{e:List AV}{o:Nat}:ok1 σ (.rptr e o)↔True:=by simp[ok1]
theorem ZR5 {σ:ZA}{f:Fn}{xs ys:List AV}:ok1 σ (.fn f xs ys)↔True:=by simp[ok1]
theorem ZQX {σ:ZA}{l n:Nat}:ok1 σ (.own l n)=(match σ[l]? with|some (.elems _ es)=>es.length=n|_=>False):=rfl
theorem ZQW {σ:ZA}{l n:Nat}:ok1 σ (.ptr l n)=(match σ[l]? with|some (.cells _)=>True|_=>False):=rfl
theorem ZOh {σ:ZA}{l n i o:Nat}:ok1 σ (.eptr l n i o)=(match σ[l]? with|some (.elems _ es)=>es.length=n/\es≠[]|_=>False):=rfl
theorem ZOf {σ:ZA}:Zl σ []↔True:=by simp[Zl]
theorem ZMc {σ:ZA}{x:AV}{r:List AV}:Zl σ (x::r)↔ok1 σ x/\Zl σ r:=by simp[Zl]
attribute [simp] ZRT ZQK ZRV ZPZ ZRW ZPY ZRU ZRS ZPa ZRX ZRR ZSd ZPW ZNJ ZQM ZOW ZQN ZOV ZQL ZQJ ZQO ZQI ZR3 ZOU ZMP ZMb ZOe ZJW ZK2 ZHX ZOd ZHY ZQY ZQZ ZOg ZR5 ZQX ZQW ZOh ZOf ZMc
end Go.Vl
