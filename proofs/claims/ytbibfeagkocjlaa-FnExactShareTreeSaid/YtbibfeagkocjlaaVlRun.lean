/- The value-level layer, part 20: the steps of code as rules for simp, which stops at what it cannot decide. Always 'simp -dsimp'. -/
import Derived.Test.YtbibfeagkocjlaaVlStep
set_option linter.all false
namespace Go.Vl
open Go Go.RowKit
section
variable {P : Program} {B nb N : Nat}
theorem ZNO {Q:Exit→ASt→Prop}{q:Box Q}{st:ASt}:awp P B nb N .skip st (hold Q q)=(Q .normal st):=rfl
theorem ZJx {Q:Exit→ASt→Prop}{q:Box Q}{st:ASt}{id:Nat}{l:List Oper}:awp P B nb N (.region id (List.toArray l) false) st (hold Q q)=(ZHn P B N (hold (List.toArray l) .mk) l st (hold (Q .normal) .mk)):=by simp only[awp,Bool.false_eq_true,if_false,hold]
theorem ZNR {Q:Exit→ASt→Prop}{q:Box Q}{st:ASt}{id:Nat}{ops:Array Oper}:awp P B nb N (.region id ops true) st (hold Q q)=(ADraw P B nb N (hold ops .mk) st (hold (Q .normal) .mk)):=by simp only[awp,if_true,hold]
theorem ZOf {Q:Exit→ASt→Prop}{q:Box Q}{st:ASt}{a b:Code}:awp P B nb N (.seq a b) st (hold Q q)=(awp P B nb N a st (hold (ZN4 P B nb N b Q) .mk)):=by simp only[hold];rw[awp];congr
theorem ZNS {Q : Exit → ASt → Prop} {q : Box Q}{st : ASt}{c : Operand} {a b : Code} : awp P B nb N (.cond c a b) st (hold Q q) = (match ev st.fr c with
    | .lit (.bool v)=>abr (v=true) (hold (awp P B nb N a st (hold Q .mk)) .mk) (hold (awp P B nb N b st (hold Q .mk)) .mk)
    |_=>False):=by
  simp only[awp,hold]
  generalize ev st.fr c=v
  cases v<;>try rfl
  next v=>cases v<;>first|exact ZGQ.symm|rfl
theorem ZLb {Q:Exit→ASt→Prop}{q:Box Q}{st:ASt}{id:Nat}{c:Code}:awp P B nb N (.block id c) st (hold Q q)=(awp P B nb N c st (hold (ZGw id Q) .mk)):=by simp only[hold];rw[awp];congr
theorem ZNP {Q:Exit→ASt→Prop}{q:Box Q}{st:ASt}{c:Code}:awp P B nb N (.loop c) st (hold Q q)=(ALoop P B nb N (hold c .mk) st (hold Q .mk)):=rfl
theorem ZNQ {Q:Exit→ASt→Prop}{q:Box Q}{st:ASt}{i:Nat}:awp P B nb N (.exit i) st (hold Q q)=(Q (.exit i) st):=rfl
theorem ZOg {Q:Exit→ASt→Prop}{q:Box Q}{st:ASt}:awp P B nb N .ret st (hold Q q)=(Q .ret st):=rfl
theorem ZJV {c:Code}{bc:Box c}{Q:Exit→ASt→Prop}{bQ:Box Q}{st:ASt}:ZEa P B nb N (hold c bc) (hold Q bQ) .normal st=Again P B nb N (hold c .mk) (hold Q .mk) st:=rfl
theorem ZOL {c:Code}{bc:Box c}{Q:Exit→ASt→Prop}{bQ:Box Q}{st:ASt}:ZEa P B nb N (hold c bc) (hold Q bQ) .ret st=Leave B nb N (hold Q .mk) .ret st:=rfl
theorem ZMY {c:Code}{bc:Box c}{Q:Exit→ASt→Prop}{bQ:Box Q}{i:Nat}{st:ASt}:ZEa P B nb N (hold c bc) (hold Q bQ) (.exit i) st=Leave B nb N (hold Q .mk) (.exit i) st:=rfl
theorem ZJU {Q:Exit→ASt→Prop}{st:ASt}{b:Code}:ZN4 P B nb N b Q .normal st=(awp P B nb N b st (hold Q .mk)):=rfl
theorem ZOG {Q:Exit→ASt→Prop}{st:ASt}{b:Code}:ZN4 P B nb N b Q .ret st=(Q .ret st):=rfl
theorem ZMU {Q:Exit→ASt→Prop}{st:ASt}{b:Code}{i:Nat}:ZN4 P B nb N b Q (.exit i) st=(Q (.exit i) st):=rfl
theorem ZKO {Q:Exit→ASt→Prop}{st:ASt}{i:Nat}:ZGw i Q .normal st=(Q .normal st):=rfl
theorem ZOw {Q:Exit→ASt→Prop}{st:ASt}{i:Nat}:ZGw i Q .ret st=(Q .ret st):=rfl
theorem ZNv {Q:Exit→ASt→Prop}{st:ASt}{i j:Nat}:ZGw i Q (.exit j) st=(if j=i then Q .normal st else Q (.exit j) st):=rfl
theorem ZOO {fn:Func}{K:AV→ZA→Prop}{st:ASt}:ZBb P fn K .ret st=(ZBI P st.σ st.fr fn.results.toList (hold (fun xs=>ZIx st.σ (pack xs) (hold K .mk)) .mk)):=rfl
theorem ZJe {fn:Func}{K:AV→ZA→Prop}{st:ASt}:ZBb P fn K .normal st=(ZBI P st.σ st.fr fn.results.toList (hold (fun xs=>ZIx st.σ (pack xs) (hold K .mk)) .mk)):=rfl
theorem ZIu {K:ASt→Prop}{k:Box K}{st:ASt}{ops:Array Oper}:ZHn P B N ops [] st (hold K k)=(K st):=rfl
theorem ZHY {K:ASt→Prop}{k:Box K}{st:ASt}{ops:Array Oper}{bo:Box ops}{o:Oper}{rest:List Oper}:ZHn P B N (hold ops bo) (o::rest) st (hold K k)=(ZAN (hold ops .mk) st.fr o.guard (hold (aop P B N o st (hold (fun st'=>ZHn P B N (hold ops .mk) rest st' (hold K .mk)) .mk)) .mk) (hold (Zx N o.dst (.lit undef) st.fr st.σ (hold (fun st'=>ZHn P B N (hold ops .mk) rest st' (hold K .mk)) .mk)) .mk)):=rfl
theorem ZFy {ops:Array Oper}{bo:Box ops}{fr:Frm}{y n:Prop}{b:Box y}{b':Box n}:ZAN (hold ops bo) fr none (hold y b) (hold n b')=(y):=rfl
def ZH1 (w:Bool)(v:AV)(y n:Prop):Prop:=match v with
  | .lit (.bool b)=>abr (b=w) (hold y .mk) (hold n .mk)
  | .lit _=>n
  |_=>False
theorem ZG3 {w b:Bool}{y n:Prop}{k:Box y}{k':Box n}:ZH1 w (.lit (.bool b)) (hold y k) (hold n k')=abr (b=w) (hold y .mk) (hold n .mk):=rfl
theorem ZFQ {w:Bool}{y n:Prop}{k:Box y}{k':Box n}:ZH1 w (.lit undef) (hold y k) (hold n k')=n:=rfl
theorem ZFx {ops : Array Oper} {bo : Box ops}{fr : Frm} {j : Nat} {w : Bool} {y n : Prop} {b : Box y} {b' : Box n} : ZAN (hold ops bo) fr (some (j, w)) (hold y b) (hold n b') = (match (ops[j]?).bind (·.dst) with
      |none=>False
      |some d=>ZH1 w (lk fr d) (hold y .mk) (hold n .mk)):=by
  simp only[ZAN,hold]
  generalize(ops[j]?).bind (fun x=>x.dst)=od
  cases od with
  |none=>rfl
  |some d=>
    simp only[]
    generalize lk fr d=v
    cases v<;>try rfl
    next v=>cases v<;>first|(simp only[yb,ZH1,Option.some.injEq];exact ZGQ.symm)|(simp[yb,ZH1,hold];done)|rfl
theorem ZM1 {x:Operand}{d:Option Nat}{t:TypeId}{p:String}{es:Array Edge}{g:Option (Nat×Bool)}{st:ASt}{K:ASt→Prop}{k:Box K}:aop P B N ⟨d,.move x,t,p,es,g⟩ st (hold K k)=(aef P B (.move x) (ev st.fr) st.σ (hold (fun r σ'=>Zx N d r st.fr σ' (hold K .mk)) .mk)):=rfl
theorem ZMc {x:Operand}{fr:Frm}{σ:ZA}{K:AV→Prop}{k:Box K}:ZCE P B (.move x) fr σ (hold K k)=(aef P B (.move x) (ev fr) σ (hold (fun r σ'=>chk (σ'=σ) (hold (K r) .mk)) .mk)):=rfl
theorem ZJl {x:Operand}{d:Option Nat}{t:TypeId}{p:String}{es:Array Edge}{g:Option (Nat×Bool)}{st:ASt}{K:ASt→Prop}{k:Box K}:aop P B N ⟨d,.assign x,t,p,es,g⟩ st (hold K k)=(aef P B (.assign x) (ev st.fr) st.σ (hold (fun r σ'=>Zx N d r st.fr σ' (hold K .mk)) .mk)):=rfl
theorem ZJX {x:Operand}{fr:Frm}{σ:ZA}{K:AV→Prop}{k:Box K}:ZCE P B (.assign x) fr σ (hold K k)=(aef P B (.assign x) (ev fr) σ (hold (fun r σ'=>chk (σ'=σ) (hold (K r) .mk)) .mk)):=rfl
theorem ZM0 {c a b:Operand}{d:Option Nat}{t:TypeId}{p:String}{es:Array Edge}{g:Option (Nat×Bool)}{st:ASt}{K:ASt→Prop}{k:Box K}:aop P B N ⟨d,.pick c a b,t,p,es,g⟩ st (hold K k)=(aef P B (.pick c a b) (ev st.fr) st.σ (hold (fun r σ'=>Zx N d r st.fr σ' (hold K .mk)) .mk)):=rfl
theorem ZMb {c a b:Operand}{fr:Frm}{σ:ZA}{K:AV→Prop}{k:Box K}:ZCE P B (.pick c a b) fr σ (hold K k)=(aef P B (.pick c a b) (ev fr) σ (hold (fun r σ'=>chk (σ'=σ) (hold (K r) .mk)) .mk)):=rfl
theorem ZLR {e:TypeId}{d:Option Nat}{t:TypeId}{p:String}{es:Array Edge}{g:Option (Nat×Bool)}{st:ASt}{K:ASt→Prop}{k:Box K}:aop P B N ⟨d,.alloc e,t,p,es,g⟩ st (hold K k)=(aef P B (.alloc e) (ev st.fr) st.σ (hold (fun r σ'=>Zx N d r st.fr σ' (hold K .mk)) .mk)):=rfl
theorem ZK8 {e:TypeId}{fr:Frm}{σ:ZA}{K:AV→Prop}{k:Box K}:ZCE P B (.alloc e) fr σ (hold K k)=(aef P B (.alloc e) (ev fr) σ (hold (fun r σ'=>chk (σ'=σ) (hold (K r) .mk)) .mk)):=rfl
theorem ZOQ {e:TypeId}{x:Operand}{d:Option Nat}{t:TypeId}{p:String}{es:Array Edge}{g:Option (Nat×Bool)}{st:ASt}{K:ASt→Prop}{k:Box K}:aop P B N ⟨d,.box e x,t,p,es,g⟩ st (hold K k)=(aef P B (.box e x) (ev st.fr) st.σ (hold (fun r σ'=>Zx N d r st.fr σ' (hold K .mk)) .mk)):=rfl
theorem ZOM {e:TypeId}{x:Operand}{fr:Frm}{σ:ZA}{K:AV→Prop}{k:Box K}:ZCE P B (.box e x) fr σ (hold K k)=(aef P B (.box e x) (ev fr) σ (hold (fun r σ'=>chk (σ'=σ) (hold (K r) .mk)) .mk)):=rfl
theorem ZLP {ty:TypeId}{parts:Array (Nat×Operand)}{d:Option Nat}{t:TypeId}{p:String}{es:Array Edge}{g:Option (Nat×Bool)}{st:ASt}{K:ASt→Prop}{k:Box K}:aop P B N ⟨d,.build ty parts,t,p,es,g⟩ st (hold K k)=(aef P B (.build ty parts) (ev st.fr) st.σ (hold (fun r σ'=>Zx N d r st.fr σ' (hold K .mk)) .mk)):=rfl
theorem ZK6 {ty:TypeId}{parts:Array (Nat×Operand)}{fr:Frm}{σ:ZA}{K:AV→Prop}{k:Box K}:ZCE P B (.build ty parts) fr σ (hold K k)=(aef P B (.build ty parts) (ev fr) σ (hold (fun r σ'=>chk (σ'=σ) (hold (K r) .mk)) .mk)):=rfl
theorem ZEm {ty:TypeId}{len:Nat}{parts:Array (Nat×Operand)}{d:Option Nat}{t:TypeId}{p:String}{es:Array Edge}{g:Option (Nat×Bool)}{st:ASt}{K:ASt→Prop}{k:Box K}:aop P B N ⟨d,.buildSlice ty len parts,t,p,es,g⟩ st (hold K k)=(aef P B (.buildSlice ty len parts) (ev st.fr) st.σ (hold (fun r σ'=>Zx N d r st.fr σ' (hold K .mk)) .mk)):=rfl
theorem ZEh {ty:TypeId}{len:Nat}{parts:Array (Nat×Operand)}{fr:Frm}{σ:ZA}{K:AV→Prop}{k:Box K}:ZCE P B (.buildSlice ty len parts) fr σ (hold K k)=(aef P B (.buildSlice ty len parts) (ev fr) σ (hold (fun r σ'=>chk (σ'=σ) (hold (K r) .mk)) .mk)):=rfl
theorem ZM2 {ty:TypeId}{x:Operand}{d:Option Nat}{t:TypeId}{p:String}{es:Array Edge}{g:Option (Nat×Bool)}{st:ASt}{K:ASt→Prop}{k:Box K}:aop P B N ⟨d,.load ty x,t,p,es,g⟩ st (hold K k)=(aef P B (.load ty x) (ev st.fr) st.σ (hold (fun r σ'=>Zx N d r st.fr σ' (hold K .mk)) .mk)):=rfl
theorem ZMd {ty:TypeId}{x:Operand}{fr:Frm}{σ:ZA}{K:AV→Prop}{k:Box K}:ZCE P B (.load ty x) fr σ (hold K k)=(aef P B (.load ty x) (ev fr) σ (hold (fun r σ'=>chk (σ'=σ) (hold (K r) .mk)) .mk)):=rfl
theorem ZLM {ty:TypeId}{x v:Operand}{d:Option Nat}{t:TypeId}{p:String}{es:Array Edge}{g:Option (Nat×Bool)}{st:ASt}{K:ASt→Prop}{k:Box K}:aop P B N ⟨d,.store ty x v,t,p,es,g⟩ st (hold K k)=(aef P B (.store ty x v) (ev st.fr) st.σ (hold (fun r σ'=>Zx N d r st.fr σ' (hold K .mk)) .mk)):=rfl
theorem ZK3 {ty:TypeId}{x v:Operand}{fr:Frm}{σ:ZA}{K:AV→Prop}{k:Box K}:ZCE P B (.store ty x v) fr σ (hold K k)=(aef P B (.store ty x v) (ev fr) σ (hold (fun r σ'=>chk (σ'=σ) (hold (K r) .mk)) .mk)):=rfl
theorem ZHQ {x:Operand}{d:Option Nat}{t:TypeId}{p:String}{es:Array Edge}{g:Option (Nat×Bool)}{st:ASt}{K:ASt→Prop}{k:Box K}:aop P B N ⟨d,.nilCheck x,t,p,es,g⟩ st (hold K k)=(aef P B (.nilCheck x) (ev st.fr) st.σ (hold (fun r σ'=>Zx N d r st.fr σ' (hold K .mk)) .mk)):=rfl
theorem ZHD {x:Operand}{fr:Frm}{σ:ZA}{K:AV→Prop}{k:Box K}:ZCE P B (.nilCheck x) fr σ (hold K k)=(aef P B (.nilCheck x) (ev fr) σ (hold (fun r σ'=>chk (σ'=σ) (hold (K r) .mk)) .mk)):=rfl
theorem ZLQ {op:BinOp}{ty:TypeId}{x y:Operand}{ty2:TypeId}{d:Option Nat}{t:TypeId}{p:String}{es:Array Edge}{g:Option (Nat×Bool)}{st:ASt}{K:ASt→Prop}{k:Box K}:aop P B N ⟨d,.binOp op ty x y ty2,t,p,es,g⟩ st (hold K k)=(aef P B (.binOp op ty x y ty2) (ev st.fr) st.σ (hold (fun r σ'=>Zx N d r st.fr σ' (hold K .mk)) .mk)):=rfl
theorem ZK7 {op:BinOp}{ty:TypeId}{x y:Operand}{ty2:TypeId}{fr:Frm}{σ:ZA}{K:AV→Prop}{k:Box K}:ZCE P B (.binOp op ty x y ty2) fr σ (hold K k)=(aef P B (.binOp op ty x y ty2) (ev fr) σ (hold (fun r σ'=>chk (σ'=σ) (hold (K r) .mk)) .mk)):=rfl
theorem ZMz {op:UnOp}{ty:TypeId}{x:Operand}{d:Option Nat}{t:TypeId}{p:String}{es:Array Edge}{g:Option (Nat×Bool)}{st:ASt}{K:ASt→Prop}{k:Box K}:aop P B N ⟨d,.unOp op ty x,t,p,es,g⟩ st (hold K k)=(aef P B (.unOp op ty x) (ev st.fr) st.σ (hold (fun r σ'=>Zx N d r st.fr σ' (hold K .mk)) .mk)):=rfl
theorem ZMa {op:UnOp}{ty:TypeId}{x:Operand}{fr:Frm}{σ:ZA}{K:AV→Prop}{k:Box K}:ZCE P B (.unOp op ty x) fr σ (hold K k)=(aef P B (.unOp op ty x) (ev fr) σ (hold (fun r σ'=>chk (σ'=σ) (hold (K r) .mk)) .mk)):=rfl
theorem ZIf {ty ty2:TypeId}{x:Operand}{d:Option Nat}{t:TypeId}{p:String}{es:Array Edge}{g:Option (Nat×Bool)}{st:ASt}{K:ASt→Prop}{k:Box K}:aop P B N ⟨d,.convert ty ty2 x,t,p,es,g⟩ st (hold K k)=(aef P B (.convert ty ty2 x) (ev st.fr) st.σ (hold (fun r σ'=>Zx N d r st.fr σ' (hold K .mk)) .mk)):=rfl
theorem ZIF {ty ty2:TypeId}{x:Operand}{fr:Frm}{σ:ZA}{K:AV→Prop}{k:Box K}:ZCE P B (.convert ty ty2 x) fr σ (hold K k)=(aef P B (.convert ty ty2 x) (ev fr) σ (hold (fun r σ'=>chk (σ'=σ) (hold (K r) .mk)) .mk)):=rfl
theorem ZHR {fn:Fn}{first captured:Array Operand}{d:Option Nat}{t:TypeId}{p:String}{es:Array Edge}{g:Option (Nat×Bool)}{st:ASt}{K:ASt→Prop}{k:Box K}:aop P B N ⟨d,.makeFunc fn first captured,t,p,es,g⟩ st (hold K k)=(aef P B (.makeFunc fn first captured) (ev st.fr) st.σ (hold (fun r σ'=>Zx N d r st.fr σ' (hold K .mk)) .mk)):=rfl
theorem ZHE {fn:Fn}{first captured:Array Operand}{fr:Frm}{σ:ZA}{K:AV→Prop}{k:Box K}:ZCE P B (.makeFunc fn first captured) fr σ (hold K k)=(aef P B (.makeFunc fn first captured) (ev fr) σ (hold (fun r σ'=>chk (σ'=σ) (hold (K r) .mk)) .mk)):=rfl
theorem ZFn {ty:TypeId}{len cap:Operand}{d:Option Nat}{t:TypeId}{p:String}{es:Array Edge}{g:Option (Nat×Bool)}{st:ASt}{K:ASt→Prop}{k:Box K}:aop P B N ⟨d,.makeSlice ty len cap,t,p,es,g⟩ st (hold K k)=(aef P B (.makeSlice ty len cap) (ev st.fr) st.σ (hold (fun r σ'=>Zx N d r st.fr σ' (hold K .mk)) .mk)):=rfl
theorem ZFa {ty:TypeId}{len cap:Operand}{fr:Frm}{σ:ZA}{K:AV→Prop}{k:Box K}:ZCE P B (.makeSlice ty len cap) fr σ (hold K k)=(aef P B (.makeSlice ty len cap) (ev fr) σ (hold (fun r σ'=>chk (σ'=σ) (hold (K r) .mk)) .mk)):=rfl
theorem ZLN {ty:TypeId}{x:Operand}{low high mx:Option Operand}{d:Option Nat}{t:TypeId}{p:String}{es:Array Edge}{g:Option (Nat×Bool)}{st:ASt}{K:ASt→Prop}{k:Box K}:aop P B N ⟨d,.slice ty x low high mx,t,p,es,g⟩ st (hold K k)=(aef P B (.slice ty x low high mx) (ev st.fr) st.σ (hold (fun r σ'=>Zx N d r st.fr σ' (hold K .mk)) .mk)):=rfl
theorem ZK4 {ty:TypeId}{x:Operand}{low high mx:Option Operand}{fr:Frm}{σ:ZA}{K:AV→Prop}{k:Box K}:ZCE P B (.slice ty x low high mx) fr σ (hold K k)=(aef P B (.slice ty x low high mx) (ev fr) σ (hold (fun r σ'=>chk (σ'=σ) (hold (K r) .mk)) .mk)):=rfl
theorem ZFp {ty:TypeId}{x:Operand}{f:Nat}{d:Option Nat}{t:TypeId}{p:String}{es:Array Edge}{g:Option (Nat×Bool)}{st:ASt}{K:ASt→Prop}{k:Box K}:aop P B N ⟨d,.fieldAddr ty x f,t,p,es,g⟩ st (hold K k)=(aef P B (.fieldAddr ty x f) (ev st.fr) st.σ (hold (fun r σ'=>Zx N d r st.fr σ' (hold K .mk)) .mk)):=rfl
theorem ZFc {ty:TypeId}{x:Operand}{f:Nat}{fr:Frm}{σ:ZA}{K:AV→Prop}{k:Box K}:ZCE P B (.fieldAddr ty x f) fr σ (hold K k)=(aef P B (.fieldAddr ty x f) (ev fr) σ (hold (fun r σ'=>chk (σ'=σ) (hold (K r) .mk)) .mk)):=rfl
theorem ZFo {ty:TypeId}{x i:Operand}{d:Option Nat}{t:TypeId}{p:String}{es:Array Edge}{g:Option (Nat×Bool)}{st:ASt}{K:ASt→Prop}{k:Box K}:aop P B N ⟨d,.indexAddr ty x i,t,p,es,g⟩ st (hold K k)=(aef P B (.indexAddr ty x i) (ev st.fr) st.σ (hold (fun r σ'=>Zx N d r st.fr σ' (hold K .mk)) .mk)):=rfl
theorem ZFb {ty:TypeId}{x i:Operand}{fr:Frm}{σ:ZA}{K:AV→Prop}{k:Box K}:ZCE P B (.indexAddr ty x i) fr σ (hold K k)=(aef P B (.indexAddr ty x i) (ev fr) σ (hold (fun r σ'=>chk (σ'=σ) (hold (K r) .mk)) .mk)):=rfl
theorem ZLO {ty:TypeId}{x i:Operand}{d:Option Nat}{t:TypeId}{p:String}{es:Array Edge}{g:Option (Nat×Bool)}{st:ASt}{K:ASt→Prop}{k:Box K}:aop P B N ⟨d,.index ty x i,t,p,es,g⟩ st (hold K k)=(aef P B (.index ty x i) (ev st.fr) st.σ (hold (fun r σ'=>Zx N d r st.fr σ' (hold K .mk)) .mk)):=rfl
theorem ZK5 {ty:TypeId}{x i:Operand}{fr:Frm}{σ:ZA}{K:AV→Prop}{k:Box K}:ZCE P B (.index ty x i) fr σ (hold K k)=(aef P B (.index ty x i) (ev fr) σ (hold (fun r σ'=>chk (σ'=σ) (hold (K r) .mk)) .mk)):=rfl
theorem ZIe {x:Operand}{i:Nat}{d:Option Nat}{t:TypeId}{p:String}{es:Array Edge}{g:Option (Nat×Bool)}{st:ASt}{K:ASt→Prop}{k:Box K}:aop P B N ⟨d,.extract x i,t,p,es,g⟩ st (hold K k)=(aef P B (.extract x i) (ev st.fr) st.σ (hold (fun r σ'=>Zx N d r st.fr σ' (hold K .mk)) .mk)):=rfl
theorem ZIE {x:Operand}{i:Nat}{fr:Frm}{σ:ZA}{K:AV→Prop}{k:Box K}:ZCE P B (.extract x i) fr σ (hold K k)=(aef P B (.extract x i) (ev fr) σ (hold (fun r σ'=>chk (σ'=σ) (hold (K r) .mk)) .mk)):=rfl
theorem ZIg {bi:Builtin}{args:Array Operand}{ts:Array TypeId}{d:Option Nat}{t:TypeId}{p:String}{es:Array Edge}{g:Option (Nat×Bool)}{st:ASt}{K:ASt→Prop}{k:Box K}:aop P B N ⟨d,.call {callee:=.builtin bi,args:=args,argTypes:=ts},t,p,es,g⟩ st (hold K k)=(aef P B (.call {callee:=.builtin bi,args:=args,argTypes:=ts}) (ev st.fr) st.σ (hold (fun r σ'=>Zx N d r st.fr σ' (hold K .mk)) .mk)):=rfl
theorem ZIG {bi:Builtin}{args:Array Operand}{ts:Array TypeId}{fr:Frm}{σ:ZA}{K:AV→Prop}{k:Box K}:ZCE P B (.call {callee:=.builtin bi,args:=args,argTypes:=ts}) fr σ (hold K k)=(aef P B (.call {callee:=.builtin bi,args:=args,argTypes:=ts}) (ev fr) σ (hold (fun r σ'=>chk (σ'=σ) (hold (K r) .mk)) .mk)):=rfl
theorem ZM3 {f:Operand}{args:Array Operand}{ts:Array TypeId}{d:Option Nat}{t:TypeId}{p:String}{es:Array Edge}{g:Option (Nat×Bool)}{st:ASt}{K:ASt→Prop}{k:Box K}:aop P B N ⟨d,.call {callee:=.value f,args:=args,argTypes:=ts},t,p,es,g⟩ st (hold K k)=(ZDI P B (ev st.fr f) (args.toList.map (ev st.fr)) st.σ (hold (fun r σ'=>Zx N d r st.fr σ' (hold K .mk)) .mk)):=rfl
theorem ZMe {f:Operand}{args:Array Operand}{ts:Array TypeId}{fr:Frm}{σ:ZA}{K:AV→Prop}{k:Box K}:ZCE P B (.call {callee:=.value f,args:=args,argTypes:=ts}) fr σ (hold K k)=(PCall P B (ev fr f) (args.toList.map (ev fr)) (hold K .mk)):=rfl
theorem ZLa {f : AV} {args : List AV} {σ : ZA}{K : AV → ZA → Prop} {k : Box K} : ZDI P B f args σ (hold K k) = (match f with
    | .fn (.func i) first cap=>ACall P B i (first++args++cap) σ (hold K .mk)
    |_=>False):=by
  cases f<;>try rfl
theorem ZLZ {f : AV} {args : List AV}{K : AV → Prop} {k : Box K} : PCall P B f args (hold K k) = (match f with
    | .fn (.func i) first cap=>ZFM P B i (first++args++cap) (hold K .mk)
    |_=>False):=by
  cases f<;>try rfl
theorem ZHX {r:AV}{fr:Frm}{σ:ZA}{K:ASt→Prop}{k:Box K}:Zx N none r fr σ (hold K k)=(K ⟨fr,σ⟩):=rfl
theorem ZHW {d:Nat}{r:AV}{fr:Frm}{σ:ZA}{K:ASt→Prop}{k:Box K}(h:d<N):Zx N (some d) r fr σ (hold K k)=K ⟨(d,r)::fr,σ⟩:=by simp[Zx,hold,h]
theorem ZLc {ops:Array Oper}{fr:Frm}{σ:ZA}{K:Frm→Prop}{k:Box K}:aP P B N ops [] fr σ (hold K k)=(K fr):=rfl
theorem ZJy {ops:Array Oper}{bo:Box ops}{o:Oper}{rest:List Oper}{fr:Frm}{σ:ZA}{K:Frm→Prop}{k:Box K}:aP P B N (hold ops bo) (o::rest) fr σ (hold K k)=(ZAN (hold ops .mk) fr o.guard (hold (ZCE P B o.op fr σ (hold (fun r=>ZBV N o.dst (hold (aP P B N (hold ops .mk) rest (Zh o.dst r fr) σ (hold K .mk)) .mk)) .mk)) .mk) (hold (ZBV N o.dst (hold (aP P B N (hold ops .mk) rest (Zh o.dst (.lit undef) fr) σ (hold K .mk)) .mk)) .mk)):=by rw[aP];rfl
theorem ZHa {K:Prop}{k:Box K}:ZBV N none (hold K k)=(K):=by simp[ZBV,dOk,hold]
theorem ZHZ {d:Nat}{K:Prop}{k:Box K}(h:d<N):ZBV N (some d) (hold K k)=K:=by simp[ZBV,dOk,hold,h]
theorem ZEx {α:Type}{l:List α}:(List.toArray l).toList=(l):=rfl
theorem ZNl {x:Operand}{ρ:Operand→AV}{σ:ZA}{K:AV→ZA→Prop}{k:Box K}:aef P B (.move x) ρ σ (hold K k)=(K (ρ x) σ):=rfl
theorem ZKK {x:Operand}{ρ:Operand→AV}{σ:ZA}{K:AV→ZA→Prop}{k:Box K}:aef P B (.assign x) ρ σ (hold K k)=(K (ρ x) σ):=rfl
theorem ZNk {c a b : Operand}{ρ : Operand → AV} {σ : ZA}{K : AV → ZA → Prop} {k : Box K} : aef P B (.pick c a b) ρ σ (hold K k) = (match ρ c with
    | .lit (.bool v)=>abr (v=true) (hold (K (ρ a) σ) .mk) (hold (K (ρ b) σ) .mk)
    |_=>False):=by
  simp only[aef,hold]
  generalize ρ c=v
  cases v<;>try rfl
  next v=>cases v<;>first|(rename_i v;cases v<;>simp[abr];done)|rfl
theorem ZL5 {t : TypeId}{ρ : Operand → AV} {σ : ZA}{K : AV → ZA → Prop} {k : Box K} : aef P B (.alloc t) ρ σ (hold K k) = (match Zl P t with
    |some i=>chk (i.zero≠[]) (hold (K (.ptr σ.length 0) (σ++[ZAf t i.zero])) .mk)
    |none=>False):=rfl
theorem ZNy {t:TypeId}{k:IntKind}{n:Int}{r:List Value}:ZAf t (.int k n::r)=.cells ((.int k n::r).map .lit):=rfl
theorem ZME {t:TypeId}{b:Bool}{r:List Value}:ZAf t (.bool b::r)=.cells ((.bool b::r).map .lit):=rfl
theorem ZJK {t:TypeId}{s:ByteArray}{r:List Value}:ZAf t (.string s::r)=.cells ((.string s::r).map .lit):=rfl
theorem ZKV {t:TypeId}{a:Option Addr}{n c:Nat}{r:List Value}:ZAf t (.slice a n c::r)=.cells ((.slice a n c::r).map .lit):=rfl
theorem ZOy {t:TypeId}{r:List Value}:ZAf t (.nilFunc::r)=.cells ((.nilFunc::r).map .lit):=rfl
theorem ZNx {t:TypeId}{p:Option Addr}:ZAf t [.pointer p]=.cells [.lit (.pointer p)]:=by cases p<;>rfl
theorem ZNz {t:TypeId}:ZAf t [.pointer none,.slice none 0 0]=.tcells (some t) [.junk,.lit (.slice none 0 0)]:=rfl
theorem ZOt {t:TypeId}{x:Operand}{ρ:Operand→AV}{σ:ZA}{K:AV→ZA→Prop}{k:Box K}:aef P B (.box t x) ρ σ (hold K k)=(AV.cellsK σ (ρ x) (hold (fun cs=>K (.ptr σ.length 0) (σ++[.cells cs])) .mk)):=rfl
theorem ZL3 {t:TypeId}{parts:Array (Nat×Operand)}{ρ:Operand→AV}{σ:ZA}{K:AV→ZA→Prop}{k:Box K}:aef P B (.build t parts) ρ σ (hold K k)=(ZBa P t σ (parts.toList.map fun p=>(p.1,ρ p.2)) (hold K .mk)):=rfl
theorem ZE8 {t:TypeId}{len:Nat}{parts:Array (Nat×Operand)}{ρ:Operand→AV}{σ:ZA}{K:AV→ZA→Prop}{k:Box K}:aef P B (.buildSlice t len parts) ρ σ (hold K k)=(Zq P B t σ len (parts.toList.map fun p=>(p.1,ρ p.2)) (hold K .mk)):=rfl
theorem ZNm {t:TypeId}{x:Operand}{ρ:Operand→AV}{σ:ZA}{K:AV→ZA→Prop}{k:Box K}:aef P B (.load t x) ρ σ (hold K k)=(ZCU P t σ (ρ x) (hold (fun r=>K r σ) .mk)):=rfl
theorem ZL0 {t:TypeId}{a x:Operand}{ρ:Operand→AV}{σ:ZA}{K:AV→ZA→Prop}{k:Box K}:aef P B (.store t a x) ρ σ (hold K k)=(ZDE P t σ (ρ a) (ρ x) (hold (fun σ'=>K (.lit undef) σ') .mk)):=rfl
theorem ZHj {x:Operand}{ρ:Operand→AV}{σ:ZA}{K:AV→ZA→Prop}{k:Box K}:aef P B (.nilCheck x) ρ σ (hold K k)=(chk (ZBl σ (ρ x)) (hold (K (ρ x) σ) .mk)):=rfl
theorem ZL4 {op:BinOp}{t yt:TypeId}{x y:Operand}{ρ:Operand→AV}{σ:ZA}{K:AV→ZA→Prop}{k:Box K}:aef P B (.binOp op t x y yt) ρ σ (hold K k)=(ZMD P op t (ρ x) (ρ y) (hold (fun r=>K r σ) .mk)):=rfl
theorem ZNj {op:UnOp}{t:TypeId}{x:Operand}{ρ:Operand→AV}{σ:ZA}{K:AV→ZA→Prop}{k:Box K}:aef P B (.unOp op t x) ρ σ (hold K k)=(aUn op (ρ x) (hold (fun r=>K r σ) .mk)):=rfl
theorem ZI6 {s d:TypeId}{x:Operand}{ρ:Operand→AV}{σ:ZA}{K:AV→ZA→Prop}{k:Box K}:aef P B (.convert s d x) ρ σ (hold K k)=(ZDS P s d σ (ρ x) (hold (fun r=>K r σ) .mk)):=rfl
theorem ZHk {fn:Fn}{first cap:Array Operand}{ρ:Operand→AV}{σ:ZA}{K:AV→ZA→Prop}{k:Box K}:aef P B (.makeFunc fn first cap) ρ σ (hold K k)=(K (.fn fn (first.toList.map ρ) (cap.toList.map ρ)) σ):=rfl
theorem ZGF {t:TypeId}{l c:Operand}{ρ:Operand→AV}{σ:ZA}{K:AV→ZA→Prop}{k:Box K}:aef P B (.makeSlice t l c) ρ σ (hold K k)=(ZAF P B t σ (ρ l) (ρ c) (hold K .mk)):=rfl
theorem ZL1 {t:TypeId}{x:Operand}{lo hi mx:Option Operand}{ρ:Operand→AV}{σ:ZA}{K:AV→ZA→Prop}{k:Box K}:aef P B (.slice t x lo hi mx) ρ σ (hold K k)=(ZBY P t σ (ρ x) (lo.map ρ) (hi.map ρ) (mx.map ρ) (hold K .mk)):=rfl
theorem ZGH {t:TypeId}{x:Operand}{f:Nat}{ρ:Operand→AV}{σ:ZA}{K:AV→ZA→Prop}{k:Box K}:aef P B (.fieldAddr t x f) ρ σ (hold K k)=(Zt P t σ (ρ x) f (hold (fun r=>K r σ) .mk)):=rfl
theorem ZGG {t:TypeId}{x i:Operand}{ρ:Operand→AV}{σ:ZA}{K:AV→ZA→Prop}{k:Box K}:aef P B (.indexAddr t x i) ρ σ (hold K k)=(Zg P t σ (ρ x) (ρ i) (hold (fun r=>K r σ) .mk)):=rfl
theorem ZL2 {t:TypeId}{x i:Operand}{ρ:Operand→AV}{σ:ZA}{K:AV→ZA→Prop}{k:Box K}:aef P B (.index t x i) ρ σ (hold K k)=(ZCc P t (ρ x) (ρ i) (hold (fun r=>K r σ) .mk)):=rfl
theorem ZI5 {x : Operand} {i : Nat}{ρ : Operand → AV} {σ : ZA}{K : AV → ZA → Prop} {k : Box K} : aef P B (.extract x i) ρ σ (hold K k) = (match ρ x with
    | .tup vs=>chk (i<vs.length) (hold (K (vs.getD i .junk) σ) .mk)
    |_=>False):=rfl
theorem ZOs {x y:Operand}{t t2:TypeId}{ρ:Operand→AV}{σ:ZA}{K:AV→ZA→Prop}{k:Box K}:aef P B (.call {callee:=.builtin .len,args:=List.toArray [x],argTypes:=List.toArray [t]}) ρ σ (hold K k)=(ZKU P t σ (ρ x) (hold (fun r=>K r σ) .mk)):=rfl
theorem ZKL {x y:Operand}{t t2:TypeId}{ρ:Operand→AV}{σ:ZA}{K:AV→ZA→Prop}{k:Box K}:aef P B (.call {callee:=.builtin .append,args:=List.toArray [x,y],argTypes:=List.toArray [t,t2]}) ρ σ (hold K k)=(ZBr P B t t2 σ (ρ x) (ρ y) (hold K .mk)):=rfl
theorem ZOq {x y : Operand} {t t2 : TypeId}{ρ : Operand → AV} {σ : ZA}{K : AV → ZA → Prop} {k : Box K} : aef P B (.call { callee := .builtin .min, args := List.toArray [x, y], argTypes := List.toArray [t, t2] }) ρ σ (hold K k) = (match ρ x, ρ y with
    | .lit (.int k a),.lit (.int _ b)=>K (.lit (.int k (if b<a then b else a))) σ
    |_,_=>False):=by
  simp only[aef,hold,List.map_cons,List.map_nil]
  unfold ZAh
  generalize ρ x=v;generalize ρ y=u
  cases v<;>try rfl
  next v => cases v <;> try rfl
            cases u<;>try rfl
            next u=>cases u<;>rfl
theorem ZOr {x y : Operand} {t t2 : TypeId}{ρ : Operand → AV} {σ : ZA}{K : AV → ZA → Prop} {k : Box K} : aef P B (.call { callee := .builtin .max, args := List.toArray [x, y], argTypes := List.toArray [t, t2] }) ρ σ (hold K k) = (match ρ x, ρ y with
    | .lit (.int k a),.lit (.int _ b)=>K (.lit (.int k (if b>a then b else a))) σ
    |_,_=>False):=by
  simp only[aef,hold,List.map_cons,List.map_nil]
  unfold ZAh
  generalize ρ x=v;generalize ρ y=u
  cases v<;>try rfl
  next v => cases v <;> try rfl
            cases u<;>try rfl
            next u=>cases u<;>rfl
theorem ZKF {σ:ZA}{x:AV}{K:List AV→Prop}{k:Box K}:AV.cellsK σ x (hold K k)=(match x with
  | .agg cs=>K cs
  | .lit v=>chk (ZAO v) (hold (K [.lit v]) .mk)
  | .arr es=>K [.arr es]
  | .rptr e o=>K [.rptr e o]
  | .fn f a b=>K [.fn f a b]
  | .own l n=>chk (ok1 σ (.own l n)) (hold (K [.own l n]) .mk)
  | .ptr l n=>chk (ok1 σ (.ptr l n)) (hold (K [.ptr l n]) .mk)
  | .eptr l n i o=>chk (ok1 σ (.eptr l n i o)) (hold (K [.eptr l n i o]) .mk)
  | .junk=>False
  | .pre _ _ _=>False
  | .tup _=>False):=by cases x<;>simp[AV.cellsK,ok1,hold,chk]
theorem ZOn {e:List AV}{off n:Nat}{K:List AV→Prop}{k:Box K}:rdE e off n (hold K k)=(if off=0∧n=e.length then K e else chk (off+n≤e.length) (hold (K ((e.drop off).take n)) .mk)):=rfl
theorem ZOm {σ:ZA}{p:AV}{n:Nat}{K:List AV→Prop}{k:Box K}:rdN σ p n (hold K k)=(match p with
  | .rptr e off=>rdE e off n (hold K .mk)
  | .ptr l off=>match σ[l]? with
    |some (.cells cs)=>rdE cs off n (hold K .mk)
    |_=>False
  | .eptr l k i off=>match σ[l]? with
    |some (.elems _ es)=>chk (es.length=k) (hold (chk (i<es.length) (hold (rdE (es.getD i []) off n (hold K .mk)) .mk)) .mk)
    |_=>False
  |_=>False):=rfl
theorem ZOo {σ:ZA}{p:AV}{K:AV→Prop}{k:Box K}:rd1 σ p (hold K k)=(match p with
  | .rptr e off=>chk (off<e.length) (hold (K (e.getD off .junk)) .mk)
  | .ptr l off=>match σ[l]? with
    |some (.cells cs)=>chk (off<cs.length) (hold (K (cs.getD off .junk)) .mk)
    |_=>False
  | .eptr l k i off=>match σ[l]? with
    |some (.elems _ es)=>chk (es.length=k) (hold (chk (i<es.length) (hold (chk (off<(es.getD i []).length) (hold (K ((es.getD i []).getD off .junk)) .mk)) .mk)) .mk)
    |_=>False
  |_=>False):=rfl
theorem ZLu {σ:ZA}{t:TypeId}{p:AV}{K:AV→Prop}{k:Box K}:ZCU P t σ p (hold K k)=(match Zl P t with
  |some i=>if i.sh.isAgg then rdN σ p i.size (hold (fun cs=>K (.agg cs)) .mk)else rd1 σ p (hold K .mk)
  |none=>False):=rfl
theorem ZOl {e cs:List AV}{off:Nat}{K:List AV→Prop}{k:Box K}:wrE e off cs (hold K k)=(if off=0∧cs.length=e.length then K cs
  else chk (off+cs.length≤e.length) (hold (K (e.take off++cs++e.drop (off+cs.length))) .mk)):=rfl
theorem ZOk {σ:ZA}{p:AV}{cs:List AV}{K:ZA→Prop}{k:Box K}:wrN σ p cs (hold K k)=(match p with
  | .ptr l off=>match σ[l]? with
    |some (.cells old)=>wrE old off cs (hold (fun new=>K (σ.set l (.cells new))) .mk)
    |_=>False
  | .eptr l k i off=>match σ[l]? with
    |some (.elems sz es)=>chk (es.length=k) (hold (chk (i<es.length) (hold (wrE (es.getD i []) off cs (hold (fun new=>K (σ.set l (.elems sz (es.set i (new.map (nzs σ)))))) .mk)) .mk)) .mk)
    |_=>False
  |_=>False):=rfl
theorem ZKG {σ:ZA}{t:TypeId}{p v:AV}{K:ZA→Prop}{k:Box K}:ZDE P t σ p v (hold K k)=(match Zl P t with
  |some i=>AV.cellsK σ v (hold (fun cs=>chk (cs.length=i.size) (hold (chk (Ze σ cs) (hold (wrN σ p cs (hold K .mk)) .mk)) .mk)) .mk)
  |none=>False):=rfl
theorem ZE6 {σ:ZA}{t:TypeId}{p:AV}{f:Nat}{K:AV→Prop}{k:Box K}:Zt P t σ p f (hold K k)=(match Zl P t with
  |some ⟨.struct offs,_,_⟩=>match offs[f]? with
    |some (o,s+1)=>chk (ZBl σ p) (hold (K (p.adv o)) .mk)
    |_=>False
  |_=>False):=rfl
theorem ZE4 {σ:ZA}{t:TypeId}{x i:AV}{K:AV→Prop}{k:Box K}:Zg P t σ x i (hold K k)=(match i,Zl P t with
  | .lit (.int _ n),some ⟨.slice sz _ _,_,_⟩=>match x with
    | .arr es=>chk (0≤n) (hold (chk (n.toNat<es.length) (hold (chk ((es.getD n.toNat []).length=sz) (hold (K (.rptr (es.getD n.toNat []) 0)) .mk)) .mk)) .mk)
    | .own l k=>match σ[l]? with
      |some (.elems sz' es)=>chk (es.length=k) (hold (chk (sz'=sz) (hold (chk (0≤n) (hold (chk (n.toNat<k) (hold (K (.eptr l k n.toNat 0)) .mk)) .mk)) .mk)) .mk)
      |_=>False
    |_=>False
  | .lit (.int _ n),some ⟨.array len (sz+1),_,_⟩=>chk (0≤n) (hold (chk (n.toNat<len) (hold (chk (ZBl σ x) (hold (K (x.adv (n.toNat*(sz+1)))) .mk)) .mk)) .mk)
  |_,_=>False):=rfl
theorem ZKI {t:TypeId}{x i:AV}{K:AV→Prop}{k:Box K}:ZCc P t x i (hold K k)=(match x,i with
  | .lit (.string s),.lit (.int _ n)=>chk (P.underlying t=some .string) (hold (chk (0≤n) (hold (chk (n.toNat<s.size) (hold (K (.lit (.int .u8 (ZGu s n.toNat)))) .mk)) .mk)) .mk)
  | .agg cs,.lit (.int _ n)=>match P.underlying t with
    |some (.array len e)=>match Zl P e with
      |some j=>chk (j.sh.isAgg=false) (hold (chk (j.size=1) (hold (chk (len=cs.length) (hold (chk (0≤n) (hold (chk (n.toNat<len) (hold (K (cs.getD n.toNat .junk)) .mk)) .mk)) .mk)) .mk)) .mk)
      |none=>False
    |_=>False
  |_,_=>False):=rfl
theorem ZNh {σ:ZA}{t:TypeId}{x:AV}{K:AV→Prop}{k:Box K}:ZKU P t σ x (hold K k)=(match P.underlying t with
  |some (.slice _)=>match x with
    | .arr es=>K (.lit (.int .i64 es.length))
    | .lit (.slice none 0 0)=>K (.lit (.int .i64 0))
    | .own l k=>K (.lit (.int .i64 k))
    |_=>False
  |some .string=>match x with
    | .lit (.string s)=>K (.lit (.int .i64 s.size))
    |_=>False
  |some (.array n _)=>K (.lit (.int .i64 n))
  |_=>False):=rfl
theorem ZKE {σ:ZA}{x:AV}{K:List (List AV)→Prop}{k:Box K}:ZCb σ x (hold K k)=(match x with
  | .arr es=>K es
  | .lit (.slice none 0 0)=>K []
  | .lit (.slice (some _) 0 _)=>K []
  | .own l k=>match σ[l]? with
    |some (.elems _ es)=>chk (es.length=k) (hold (K es) .mk)
    |_=>False
  |_=>False):=rfl
theorem ZI3 {σ:ZA}{t t2:TypeId}{s x:AV}{K:AV→ZA→Prop}{k:Box K}:ZBr P B t t2 σ s x (hold K k)=(match Zl P t,P.underlying t2 with
  |some ⟨.slice sz bytes zs,_,_⟩,some (.slice _)=>
    chk (zs.length=sz) (hold (chk (sz≠0) (hold (chk (bytes≠0) (hold (ZCb σ x (hold (fun new=>chk (ZEE sz new) (hold (chk (ZA8 σ new) (hold (
      match s with
      | .lit (.slice none 0 0) => chk (new.length ≤ bd B) (hold (chk ((2 * new.length + 1024) * bytes ≤ 281474976710656) (hold (
          K (.own σ.length new.length) (σ++[.elems sz new])) .mk)) .mk)
      | .own l n=>match σ[l]? with
        | some (.elems sz' es) => chk (es.length = n) (hold (chk (sz' = sz) (hold (chk (n + new.length ≤ bd B) (hold (chk ((2 * (n + new.length) + 1024) * bytes ≤ 281474976710656) (hold (
            K (.own l (n+new.length)) (σ.set l (.elems sz (es++new)))) .mk)) .mk)) .mk)) .mk)
        |_=>False
      |_=>False) .mk)) .mk)) .mk)) .mk)) .mk)) .mk)
  |_,_=>False):=rfl
theorem ZNi {op:BinOp}{t:TypeId}{x y:AV}{K:AV→Prop}{k:Box K}:ZMD P op t x y (hold K k)=(match x,y with
  | .lit (.int k a),.lit (.int k' b)=>chk (k=k') (hold (match op with
    | .add=>K (.lit (.int k (k.wrap (a+b))))
    | .sub=>K (.lit (.int k (k.wrap (a-b))))
    | .mul=>K (.lit (.int k (k.wrap (a*b))))
    | .quo=>chk (b≠0) (hold (K (.lit (.int k (k.wrap (a.tdiv b))))) .mk)
    | .rem=>chk (b≠0) (hold (K (.lit (.int k (a.tmod b)))) .mk)
    | .eql=>K (.lit (.bool (a==b)))
    | .neq=>K (.lit (.bool (a !=b)))
    | .lss=>K (.lit (.bool (a<b)))
    | .leq=>K (.lit (.bool (a≤b)))
    | .gtr=>K (.lit (.bool (a>b)))
    | .geq=>K (.lit (.bool (a≥b)))
    | .xor=>K (.lit (.int k (ZO0 k a b)))
    |_=>False) .mk)
  | .lit (.string a),.lit (.string b)=>match op with
    | .add=>chk ((a.size+b.size:Nat)≤9223372036854775807) (hold (K (.lit (.string (a++b)))) .mk)
    | .eql=>K (.lit (.bool (a.toList==b.toList)))
    | .neq=>K (.lit (.bool (!(a.toList==b.toList))))
    |_=>False
  | .lit (.bool a),.lit (.bool b)=>chk (P.underlying t=some .bool) (hold (match op with
    | .eql=>K (.lit (.bool (a==b)))
    | .neq=>K (.lit (.bool (!(a==b))))
    |_=>False) .mk)
  | .agg xs,.agg ys=>match ZAq xs,ZAq ys with
    |some p,some q=>chk (ZCY P t=true) (hold (match op with
      | .eql=>K (.lit (.bool (dec (eq2 p q))))
      | .neq=>K (.lit (.bool (!dec (eq2 p q))))
      |_=>False) .mk)
    |_,_=>match ZBA xs,ZBA ys with
      |some p,some q=>chk (ZDW P t=true) (hold (match op with
        | .eql=>K (.lit (.bool (dec (eq3 p q))))
        | .neq=>K (.lit (.bool (!dec (eq3 p q))))
        |_=>False) .mk)
      |_,_=>match ZBy xs,ZBy ys with
        |some p,some q=>chk (ZCq P t=true) (hold (match op with
          | .eql=>K (.lit (.bool (dec (eq4 p q))))
          | .neq=>K (.lit (.bool (!dec (eq4 p q))))
          |_=>False) .mk)
        |_,_=>False
  | .arr es,.lit (.slice none 0 0)=>chk (ZFv P t=true) (hold (chk (es≠[]) (hold (match op with
    | .eql=>K (.lit (.bool false))
    | .neq=>K (.lit (.bool true))
    |_=>False) .mk)) .mk)
  | .lit (.slice a n c),.lit (.slice none 0 0)=>chk (ZFv P t=true) (hold (match op with
    | .eql=>K (.lit (.bool a.isNone))
    | .neq=>K (.lit (.bool (!a.isNone)))
    |_=>False) .mk)
  |_,_=>False):=rfl
theorem ZOp {op:UnOp}{x:AV}{K:AV→Prop}{k:Box K}:aUn op x (hold K k)=(match op,x with
  | .not,.lit (.bool b)=>K (.lit (.bool (!b)))
  | .neg,.lit (.int k n)=>K (.lit (.int k (k.wrap (0-n))))
  |_,_=>False):=rfl
theorem ZLv {s d:TypeId}{σ:ZA}{x:AV}{K:AV→Prop}{k:Box K}:ZDS P s d σ x (hold K k)=(match P.underlying s,P.underlying d,x with
  |some (.int _),some (.int k),.lit (.int _ n)=>K (.lit (.int k (k.wrap n)))
  |some (.slice e),some .string,.arr es=>chk (ZA4 P (some (.slice e))=true) (hold (match u8s es with
    |some ns=>K (.lit (.string (ZKt ns)))
    |none=>False) .mk)
  |some (.slice e),some .string,.own l n=>chk (ZA4 P (some (.slice e))=true) (hold (match σ[l]? with
    |some (.elems _ es)=>chk (es.length=n) (hold (match u8s es with
      |some ns=>K (.lit (.string (ZKt ns)))
      |none=>False) .mk)
    |_=>False) .mk)
  |_,_,_=>False):=rfl
theorem ZI2 {σ:ZA}{K:List AV→ZA→Prop}{k:Box K}:frz σ [] (hold K k)=(K [] σ):=id rfl
theorem ZHe {σ:ZA}{x:AV}{r:List AV}{K:List AV→ZA→Prop}{k:Box K}:frz σ (x::r) (hold K k)=(match x with
  | .own l n=>(match σ[l]? with
    |some (.elems _ es)=>chk (es.length=n) (hold (chk (ZZ es) (hold (frz (σ.set l .dead) r (hold (fun r' σ'=>K (.arr es::r') σ') .mk)) .mk)) .mk)
    |_=>False)
  | .lit v=>frz σ r (hold (fun r' σ'=>K (.lit v::r') σ') .mk)
  | .arr v=>frz σ r (hold (fun r' σ'=>K (.arr v::r') σ') .mk)
  |y=>frz σ r (hold (fun r' σ'=>K (y::r') σ') .mk)):=by
  simp only[hold]
  cases x with
  |own l n=>simp only[frz];generalize σ[l]? =ob;rcases ob with _|(_|⟨(_|_),cs⟩|⟨(_|_),sz,es⟩)<;>rfl
  |_=>rfl
theorem ZHd {σ:ZA}{K:List (List AV)→ZA→Prop}{k:Box K}:ZJ8 σ [] (hold K k)=(K [] σ):=id rfl
theorem ZF9 {σ:ZA}{x:List AV}{r:List (List AV)}{K:List (List AV)→ZA→Prop}{k:Box K}:ZJ8 σ (x::r) (hold K k)=(frz σ x (hold (fun e' σ'=>ZJ8 σ' r (hold (fun r' σ''=>K (e'::r') σ'') .mk)) .mk)):=id rfl
theorem ZNf {σ:ZA}{x:AV}{K:AV→ZA→Prop}{k:Box K}:ZIy σ x (hold K k)=(match x with
  | .agg cs=>frz σ cs (hold (fun cs' σ'=>K (.agg cs') σ') .mk)
  | .own l n=>(match σ[l]? with
    |some (.elems _ es)=>chk (es.length=n) (hold (chk (ZZ es) (hold (K (.arr es) (σ.set l .dead)) .mk)) .mk)
    |_=>False)
  | .lit v=>K (.lit v) σ
  | .arr v=>K (.arr v) σ
  |y=>K y σ):=by cases x<;>rfl
theorem ZHg {σ:ZA}{K:List AV→ZA→Prop}{k:Box K}:ZIw σ [] (hold K k)=(K [] σ):=rfl
theorem ZGB {σ:ZA}{x:AV}{r:List AV}{K:List AV→ZA→Prop}{k:Box K}:ZIw σ (x::r) (hold K k)=(ZIy σ x (hold (fun x' σ'=>ZIw σ' r (hold (fun r' σ''=>K (x'::r') σ'') .mk)) .mk)):=rfl
theorem ZNe {σ:ZA}{x:AV}{K:AV→ZA→Prop}{k:Box K}:ZIx σ x (hold K k)=(match x with
  | .tup xs=>ZIw σ xs (hold (fun xs' σ'=>K (.tup xs') σ') .mk)
  | .lit v=>K (.lit v) σ
  | .arr v=>K (.arr v) σ
  |y=>ZIy σ y (hold K .mk)):=by cases x<;>rfl
theorem ZHi {σ:ZA}{fr:Frm}{K:List AV→Prop}{k:Box K}:ZBI P σ fr [] (hold K k)=(K []):=rfl
theorem ZHh {σ:ZA}{fr:Frm}{t:Nat}{r:List ResultVar}{K:List AV→Prop}{k:Box K}:ZBI P σ fr (.tmp t::r) (hold K k)=(ZBI P σ fr r (hold (fun xs=>K (lk fr t::xs)) .mk)):=rfl
theorem ZGC {σ:ZA}{fr:Frm}{a:Nat}{t:TypeId}{r:List ResultVar}{K:List AV→Prop}{k:Box K}:ZBI P σ fr (.cell a t::r) (hold K k)=(ZCU P t σ (lk fr a) (hold (fun x=>ZBI P σ fr r (hold (fun xs=>K (x::xs)) .mk)) .mk)):=rfl
theorem ZGD {place:Nat→Option (Nat×Nat)}{σ:ZA}{cs:List AV}{K:List AV→Prop}{k:Box K}:ZBL place σ cs [] (hold K k)=(K cs):=rfl
theorem ZE5 {place : Nat → Option (Nat × Nat)}{σ : ZA}{cs : List AV} {i : Nat} {x : AV} {rest : List (Nat × AV)}{K : List AV → Prop} {k : Box K} : ZBL place σ cs ((i, x) :: rest) (hold K k) = (match place i with
    |some (off,size)=>AV.cellsK σ x (hold (fun new=>chk (new.length=size) (hold (wrE cs off new (hold (fun cs'=>ZBL place σ cs' rest (hold K .mk)) .mk)) .mk)) .mk)
    |none=>False):=rfl
theorem ZKJ {σ:ZA}{t:TypeId}{ps:List (Nat×AV)}{K:AV→ZA→Prop}{k:Box K}:ZBa P t σ ps (hold K k)=(match Zl P t with
  |some ⟨.struct offs,_,z⟩=>chk ((∀p,p∈offs→p.2≠0)) (hold (chk (z≠[]) (hold (ZBL (fun i=>offs[i]?) σ (z.map .lit) ps (hold (fun cs=>bfrz σ cs (hold (fun cs' σ'=>K (.agg cs') σ') .mk)) .mk)) .mk)) .mk)
  |_=>False):=rfl
theorem ZNg {σ:ZA}{cs:List AV}{K:List AV→ZA→Prop}{k:Box K}:bfrz σ cs (hold K k)=(if σ.any isM=true then K cs σ else frz σ cs (hold K .mk)):=rfl
theorem ZLt {σ:ZA}{es:List (List AV)}{K:List (List AV)→ZA→Prop}{k:Box K}:bfrzs σ es (hold K k)=(if σ.any isK=true∧σ.any isP=true then K es σ else ZJ8 σ es (hold K .mk)):=rfl
theorem ZEu {n:Nat}{es:List (List AV)}:isK (.elems n es)=decide (n=0):=by cases n<;>rfl
theorem ZEv {cs:List AV}:isK (.cells cs)=false:=rfl
theorem ZGp :isK .dead=false:=rfl
theorem ZGo {xs:List AV}{vs:List Value}:isK (.pack xs vs)=false:=rfl
theorem ZEs {n:Nat}{es:List (List AV)}:isP (.elems n es)=false:=rfl
theorem ZEt {cs:List AV}:isP (.cells cs)=false:=rfl
theorem ZGn :isP .dead=false:=rfl
theorem ZGm {xs:List AV}{vs:List Value}:isP (.pack xs vs)=true:=rfl
theorem ZIr {n:Nat}{es:List (List AV)}:isM (.elems n es)=decide (n=0):=by cases n<;>rfl
theorem ZIs {cs:List AV}:isM (.cells cs)=false:=rfl
theorem ZJw :isM .dead=false:=rfl
theorem ZJv {xs:List AV}{vs:List Value}:isM (.pack xs vs)=true:=rfl
theorem ZHU {n:Nat}{es:List (List AV)}:ZNM (.elems n es)=false:=rfl
theorem ZHV {cs:List AV}:ZNM (.cells cs)=false:=rfl
theorem ZIq :ZNM .dead=false:=rfl
theorem ZIp {xs:List AV}{vs:List Value}:ZNM (.pack xs vs)=true:=rfl
theorem ZE7 {σ:ZA}{sz j:Nat}{K:List (List AV)→Prop}{k:Box K}:ZBZ σ sz j [] (hold K k)=(K []):=rfl
theorem ZEH {σ:ZA}{sz j i:Nat}{x:AV}{rest:List (Nat×AV)}{K:List (List AV)→Prop}{k:Box K}:ZBZ σ sz j ((i,x)::rest) (hold K k)=(chk (i=j) (hold (AV.cellsK σ x (hold (fun e=>chk (e.length=sz) (hold (ZBZ σ sz (j+1) rest (hold (fun es=>K (e.map (nzs σ)::es)) .mk)) .mk)) .mk)) .mk)):=rfl
theorem ZEI {σ:ZA}{t:TypeId}{len:Nat}{ps:List (Nat×AV)}{K:AV→ZA→Prop}{k:Box K}:Zq P B t σ len ps (hold K k)=(match Zl P t with
  |some ⟨.slice sz _ z,_,_⟩=>chk (ps.length=len) (hold (chk (len*sz≤16777216) (hold (chk (len≤bd B) (hold (chk (z.length=sz) (hold (chk (sz≠0) (hold (ZBZ σ sz 0 ps (hold (fun es=>bfrzs σ es (hold (fun es' σ'=>K (.own σ'.length len) (σ'++[.elems sz es'])) .mk)) .mk)) .mk)) .mk)) .mk)) .mk)) .mk)
  |_=>False):=rfl
theorem ZE3 {σ:ZA}{t:TypeId}{l c:AV}{K:AV→ZA→Prop}{k:Box K}:ZAF P B t σ l c (hold K k)=(match Zl P t,l,c with
  |some ⟨.slice sz bytes z,_,_⟩,.lit (.int _ n),.lit (.int _ n')=>chk (n=n') (hold (chk (0≤n) (hold (chk (n≤9223372036854775807) (hold (chk (bytes*n≤281474976710656) (hold (chk (n.toNat≤bd B) (hold (chk (z.length=sz) (hold (chk (sz≠0) (hold (K (.own σ.length n.toNat) (σ++[.elems sz (List.replicate n.toNat ((z.map .lit).map (nzs σ)))])) .mk)) .mk)) .mk)) .mk)) .mk)) .mk)) .mk)
  |_,_,_=>False):=rfl
theorem ZKD {x:Option AV}{d:Nat}{K:Nat→Prop}{k:Box K}:ZAX x d (hold K k)=(match x with
  |none=>K d
  |some (.lit (.int _ n))=>chk (0≤n) (hold (K n.toNat) .mk)
  |_=>False):=rfl
theorem ZKH {σ:ZA}{t:TypeId}{x:AV}{lo hi mx:Option AV}{K:AV→ZA→Prop}{k:Box K}:ZBY P t σ x lo hi mx (hold K k)=(match x,mx with
  | .lit (.string s),none=>chk (P.underlying t=some .string) (hold (
    ZAX lo 0 (hold (fun l=>ZAX hi s.size (hold (fun h=>chk (l≤h) (hold (chk (h≤s.size) (hold (K (.lit (.string (s.extract l h))) σ) .mk)) .mk)) .mk)) .mk)) .mk)
  | .arr es,none=>match Zl P t with
    |some ⟨.slice sz _ _,_,_⟩=>chk (ZEE sz es) (hold (
      ZAX lo 0 (hold (fun l=>ZAX hi es.length (hold (fun h=>chk (l≤h) (hold (chk (h≤es.length) (hold (K (.arr ((es.drop l).take (h-l))) σ) .mk)) .mk)) .mk)) .mk)) .mk)
    |_=>False
  | .own l n,none=>match lo,Zl P t with
    |none,some ⟨.slice _ _ _,_,_⟩=>ZAX hi n (hold (fun h=>chk (h≤n) (hold (K (.pre l n h) σ) .mk)) .mk)
    |_,_=>False
  |_,_=>False):=rfl
theorem ZLs {σ:ZA}{x:AV}:ZBl σ x=(match x with
  | .rptr _ _=>True
  | .ptr l _=>match σ[l]? with
    |some (.cells _)=>True
    |_=>False
  | .eptr l k _ _=>match σ[l]? with
    |some (.elems _ es)=>es.length=k∧es≠[]
    |_=>False
  |_=>False):=rfl
end
attribute [simp ↓] ZEP ZDR ZKN ZJV ZOL ZMY ZDy ZHB ZFY
  ZNO ZJx ZNR ZOf ZNS ZLb ZNP ZNQ ZOg ZJU ZOG ZMU ZKO ZOw ZNv ZOO ZJe ZIu ZHY ZFy ZFx ZM1 ZMc ZJl ZJX ZM0 ZMb ZLR ZK8 ZOQ ZOM ZLP ZK6 ZEm ZEh ZM2 ZMd ZLM ZK3 ZHQ ZHD ZLQ ZK7 ZMz ZMa ZIf ZIF ZHR ZHE ZFn ZFa ZLN ZK4 ZFp ZFc ZFo ZFb ZLO ZK5 ZIe ZIE ZIg ZIG ZM3 ZMe ZLa ZLZ ZHX ZHW ZLc ZJy ZHa ZHZ ZEx ZNl ZKK ZNk ZL5 ZNy ZME ZJK ZKV ZOy ZNx ZNz ZOt ZL3 ZE8 ZNm ZL0 ZHj ZL4 ZNj ZI6 ZHk ZGF ZL1 ZGH ZGG ZL2 ZI5 ZOs ZKL ZOq ZOr ZKF ZOn ZOm ZOo ZLu ZOl ZOk ZKG ZE6 ZE4 ZKI ZNh ZKE ZI3 ZNi ZOp ZLv ZI2 ZHe ZHd ZF9 ZNf ZHg ZGB ZNe ZHi ZHh ZGC ZGD ZE5 ZKJ ZNg ZLt ZEu ZEv ZGp ZGo ZEs ZEt ZGn ZGm ZE7 ZEH ZEI ZE3 ZKD ZKH ZLs
attribute [simp] ZG3 ZFQ ZN2 u8s ZA4
attribute [simp] ZEu ZEv ZGp ZGo ZEs ZEt ZGn ZGm ZIr ZIs ZJw ZJv ZHU ZHV ZIq ZIp nzs
attribute [simp] nz AV.le AV.le.les ZNa ZEU Blk.le pack ZD1 Blk.closed Zo ZKA AV.bnd AV.bnd.bnds ev ZBF lk AV.adv Sh.isAgg Zh
theorem ZNs {n:Nat}{v:Value}:AV.closed n (.lit v)↔True:=by simp[AV.closed]
theorem ZL9 {n:Nat}:AV.closed n .junk↔True:=by simp[AV.closed]
theorem ZNt {n:Nat}{es:List (List AV)}:AV.closed n (.arr es)↔True:=by simp[AV.closed]
theorem ZL8 {n:Nat}{e:List AV}{o:Nat}:AV.closed n (.rptr e o)↔True:=by simp[AV.closed]
theorem ZNq {n l i k:Nat}:AV.closed n (.pre l i k)↔l<n:=by simp[AV.closed]
theorem ZNr {n l k:Nat}:AV.closed n (.own l k)↔l<n:=by simp[AV.closed]
theorem ZNp {n l k:Nat}:AV.closed n (.ptr l k)↔l<n:=by simp[AV.closed]
theorem ZMA {n l k i o:Nat}:AV.closed n (.eptr l k i o)↔l<n:=by simp[AV.closed]
theorem ZNu {n:Nat}{cs:List AV}:AV.closed n (.agg cs)↔AV.closed.closeds n cs:=by simp[AV.closed]
theorem ZNo {n:Nat}{cs:List AV}:AV.closed n (.tup cs)↔AV.closed.closeds n cs:=by simp[AV.closed]
theorem ZOv {n:Nat}{f:Fn}{xs ys:List AV}:AV.closed n (.fn f xs ys)↔AV.closed.closeds n xs∧AV.closed.closeds n ys:=by simp[AV.closed]
theorem ZL6 {n:Nat}:AV.closed.closeds n []↔True:=by simp[AV.closed.closeds]
theorem ZKM {n:Nat}{x:AV}{r:List AV}:AV.closed.closeds n (x::r)↔x.closed n∧AV.closed.closeds n r:=by simp[AV.closed.closeds]
theorem ZMk {v:Value}:AV.pure (.lit v)↔True:=by simp[AV.pure]
theorem ZLB :AV.pure .junk↔True:=by simp[AV.pure]
theorem ZMl {es:List (List AV)}:AV.pure (.arr es)↔True:=by simp[AV.pure]
theorem ZLA {e:List AV}{o:Nat}:AV.pure (.rptr e o)↔True:=by simp[AV.pure]
theorem ZMi {l i k:Nat}:AV.pure (.pre l i k)↔False:=by simp[AV.pure]
theorem ZMj {l k:Nat}:AV.pure (.own l k)↔False:=by simp[AV.pure]
theorem ZMh {l k:Nat}:AV.pure (.ptr l k)↔False:=by simp[AV.pure]
theorem ZMm {cs:List AV}:AV.pure (.agg cs)↔AV.pure.pures cs:=by simp[AV.pure]
theorem ZMg {cs:List AV}:AV.pure (.tup cs)↔AV.pure.pures cs:=by simp[AV.pure]
theorem ZON {f:Fn}{xs ys:List AV}:AV.pure (.fn f xs ys)↔AV.pure.pures xs∧AV.pure.pures ys:=by simp[AV.pure]
theorem ZK9 :AV.pure.pures []↔True:=by simp[AV.pure.pures]
theorem ZJY {x:AV}{r:List AV}:AV.pure.pures (x::r)↔x.pure∧AV.pure.pures r:=by simp[AV.pure.pures]
theorem ZJj {b:Bool}:ZAO (.bool b)↔True:=by simp[ZAO]
theorem ZLI {k:IntKind}{b:Int}:ZAO (.int k b)↔True:=by simp[ZAO]
theorem ZHM {b:ByteArray}:ZAO (.string b)↔True:=by simp[ZAO]
theorem ZIa {a:Option Addr}{l c:Nat}:ZAO (.slice a l c)↔True:=by simp[ZAO]
theorem ZFk {a:Option Addr}:ZAO (.pointer a)↔True:=by simp[ZAO]
theorem ZLH {a:Option Nat}:ZAO (.map a)↔True:=by simp[ZAO]
theorem ZFl :ZAO .nilFunc↔True:=by simp[ZAO]
theorem ZMx {σ:ZA}{v:Value}:ok1 σ (.lit v)↔ZAO v:=by simp[ok1]
theorem ZMy {σ:ZA}{es:List (List AV)}:ok1 σ (.arr es)↔True:=by simp[ok1]
theorem ZLK {σ:ZA}{e:List AV}{o:Nat}:ok1 σ (.rptr e o)↔True:=by simp[ok1]
theorem ZOP {σ:ZA}{f:Fn}{xs ys:List AV}:ok1 σ (.fn f xs ys)↔True:=by simp[ok1]
theorem ZMw {σ:ZA}{l n:Nat}:ok1 σ (.own l n)=(match σ[l]? with|some (.elems _ es)=>es.length=n|_=>False):=rfl
theorem ZMv {σ:ZA}{l n:Nat}:ok1 σ (.ptr l n)=(match σ[l]? with|some (.cells _)=>True|_=>False):=rfl
theorem ZLL {σ:ZA}{l n i o:Nat}:ok1 σ (.eptr l n i o)=(match σ[l]? with|some (.elems _ es)=>es.length=n∧es≠[]|_=>False):=rfl
theorem ZLJ {σ:ZA}:Ze σ []↔True:=by simp[Ze]
theorem ZJk {σ:ZA}{x:AV}{r:List AV}:Ze σ (x::r)↔ok1 σ x∧Ze σ r:=by simp[Ze]
attribute [simp] ZNq ZMi ZNs ZL9 ZNt ZL8 ZNr ZNp ZMA ZNu ZNo ZOv ZL6 ZKM ZMk ZLB ZMl ZLA ZMj ZMh ZMm ZMg ZON ZK9 ZJY ZJj ZLI ZHM ZIa ZFk ZLH ZFl ZMx ZMy ZLK ZOP ZMw ZMv ZLL ZLJ ZJk
end Go.Vl
