/- A part of the proof. -/
import Derived.Test.YtoiccjladkadgaaGreatVlStep
set_option linter.all false
namespace Go.Vl
open Go Go.RowKit
section
variable {P : Program} {B nb N : Nat}
theorem ZN5 {Q:Exit->ASt->Prop}{q:Box Q}{st:ASt}:awp P B nb N .skip st (hold Q q)=(Q .normal st):=rfl
theorem ZKn {Q:Exit->ASt->Prop}{q:Box Q}{st:ASt}{id:Nat}{l:List Oper}:awp P B nb N (.region id (List.toArray l) false) st (hold Q q)=(ZGy P B N (hold (List.toArray l) .mk) l st (hold (Q .normal) .mk)):=by simp only[awp,Bool.false_eq_true,if_false,hold]
theorem ZN8 {Q:Exit->ASt->Prop}{q:Box Q}{st:ASt}{id:Nat}{ops:Array Oper}:awp P B nb N (.region id ops true) st (hold Q q)=(ADraw P B nb N (hold ops .mk) st (hold (Q .normal) .mk)):=by simp only[awp,if_true,hold]
theorem ZO9 {Q:Exit->ASt->Prop}{q:Box Q}{st:ASt}{a b:Code}:awp P B nb N (.seq a b) st (hold Q q)=(awp P B nb N a st (hold (ZOi P B nb N b Q) .mk)):=by simp only[hold];rw[awp];congr
theorem ZN9 {Q : Exit -> ASt -> Prop} {q : Box Q}{st : ASt}{c : Operand} {a b : Code} : awp P B nb N (.cond c a b) st (hold Q q) = (match ev st.fr c with
    | .lit (.bool v)=>abr (v=true) (hold (awp P B nb N a st (hold Q .mk)) .mk) (hold (awp P B nb N b st (hold Q .mk)) .mk)
    |_=>False):=by
  simp only[awp,hold]
  generalize ev st.fr c=v
  cases v<;>try rfl
  next v=>cases v<;>first|exact ZG0.symm|rfl
theorem ZMi {Q:Exit->ASt->Prop}{q:Box Q}{st:ASt}{id:Nat}{c:Code}:awp P B nb N (.block id c) st (hold Q q)=(awp P B nb N c st (hold (ZHX id Q) .mk)):=by simp only[hold];rw[awp];congr
theorem ZN6 {Q:Exit->ASt->Prop}{q:Box Q}{st:ASt}{c:Code}:awp P B nb N (.loop c) st (hold Q q)=(ALoop P B nb N (hold c .mk) st (hold Q .mk)):=rfl
theorem ZN7 {Q:Exit->ASt->Prop}{q:Box Q}{st:ASt}{i:Nat}:awp P B nb N (.exit i) st (hold Q q)=(Q (.exit i) st):=rfl
theorem ZPA {Q:Exit->ASt->Prop}{q:Box Q}{st:ASt}:awp P B nb N .ret st (hold Q q)=(Q .ret st):=rfl
theorem ZKP {c:Code}{bc:Box c}{Q:Exit->ASt->Prop}{bQ:Box Q}{st:ASt}:ZFC P B nb N (hold c bc) (hold Q bQ) .normal st=Again P B nb N (hold c .mk) (hold Q .mk) st:=rfl
theorem ZOw {c:Code}{bc:Box c}{Q:Exit->ASt->Prop}{bQ:Box Q}{st:ASt}:ZFC P B nb N (hold c bc) (hold Q bQ) .ret st=Leave B nb N (hold Q .mk) .ret st:=rfl
theorem ZNY {c:Code}{bc:Box c}{Q:Exit->ASt->Prop}{bQ:Box Q}{i:Nat}{st:ASt}:ZFC P B nb N (hold c bc) (hold Q bQ) (.exit i) st=Leave B nb N (hold Q .mk) (.exit i) st:=rfl
theorem ZKN {Q:Exit->ASt->Prop}{st:ASt}{b:Code}:ZOi P B nb N b Q .normal st=(awp P B nb N b st (hold Q .mk)):=rfl
theorem ZOs {Q:Exit->ASt->Prop}{st:ASt}{b:Code}:ZOi P B nb N b Q .ret st=(Q .ret st):=rfl
theorem ZNU {Q:Exit->ASt->Prop}{st:ASt}{b:Code}{i:Nat}:ZOi P B nb N b Q (.exit i) st=(Q (.exit i) st):=rfl
theorem ZLF {Q:Exit->ASt->Prop}{st:ASt}{i:Nat}:ZHX i Q .normal st=(Q .normal st):=rfl
theorem ZPP {Q:Exit->ASt->Prop}{st:ASt}{i:Nat}:ZHX i Q .ret st=(Q .ret st):=rfl
theorem ZOb {Q:Exit->ASt->Prop}{st:ASt}{i j:Nat}:ZHX i Q (.exit j) st=(if j=i then Q .normal st else Q (.exit j) st):=rfl
theorem ZOz {fn:Func}{K:AV->ZB->Prop}{st:ASt}:ZAf P fn K .ret st=(ZBt P st.σ st.fr fn.results.toList (hold (fun xs=>ZKw st.σ (pack xs) (hold K .mk)) .mk)):=rfl
theorem ZKX {fn:Func}{K:AV->ZB->Prop}{st:ASt}:ZAf P fn K .normal st=(ZBt P st.σ st.fr fn.results.toList (hold (fun xs=>ZKw st.σ (pack xs) (hold K .mk)) .mk)):=rfl
theorem ZJh {K:ASt->Prop}{k:Box K}{st:ASt}{ops:Array Oper}:ZGy P B N ops [] st (hold K k)=(K st):=rfl
theorem ZIG {K:ASt->Prop}{k:Box K}{st:ASt}{ops:Array Oper}{bo:Box ops}{o:Oper}{rest:List Oper}:ZGy P B N (hold ops bo) (o::rest) st (hold K k)=(ZAT (hold ops .mk) st.fr o.guard (hold (aop P B N o st (hold (fun st'=>ZGy P B N (hold ops .mk) rest st' (hold K .mk)) .mk)) .mk) (hold (ZAF N o.dst (.lit undef) st.fr st.σ (hold (fun st'=>ZGy P B N (hold ops .mk) rest st' (hold K .mk)) .mk)) .mk)):=rfl
theorem ZGe {ops:Array Oper}{bo:Box ops}{fr:Frm}{y n:Prop}{b:Box y}{b':Box n}:ZAT (hold ops bo) fr none (hold y b) (hold n b')=(y):=rfl
def ZIn (w:Bool)(v:AV)(y n:Prop):Prop:=match v with
  | .lit (.bool b)=>abr (b=w) (hold y .mk) (hold n .mk)
  | .lit _=>n
  |_=>False
theorem ZHh {w b:Bool}{y n:Prop}{k:Box y}{k':Box n}:ZIn w (.lit (.bool b)) (hold y k) (hold n k')=abr (b=w) (hold y .mk) (hold n .mk):=rfl
theorem ZF9 {w:Bool}{y n:Prop}{k:Box y}{k':Box n}:ZIn w (.lit undef) (hold y k) (hold n k')=n:=rfl
theorem ZGd {ops : Array Oper} {bo : Box ops}{fr : Frm} {j : Nat} {w : Bool} {y n : Prop} {b : Box y} {b' : Box n} : ZAT (hold ops bo) fr (some (j, w)) (hold y b) (hold n b') = (match (ops[j]?).bind (·.dst) with
      |none=>False
      |some d=>ZIn w (lk fr d) (hold y .mk) (hold n .mk)):=by
  simp only[ZAT,hold]
  generalize(ops[j]?).bind (fun x=>x.dst)=od
  cases od with
  |none=>rfl
  |some d=>
    simp only[]
    generalize lk fr d=v
    cases v<;>try rfl
    next v=>cases v<;>first|(simp only[yb,ZIn,Option.some.injEq];exact ZG0.symm)|(simp[yb,ZIn,hold];done)|rfl
theorem ZNw {x:Operand}{d:Option Nat}{t:TypeId}{p:String}{es:Array Edge}{g:Option (Nat×Bool)}{st:ASt}{K:ASt->Prop}{k:Box K}:aop P B N ⟨d,.move x,t,p,es,g⟩ st (hold K k)=(aef P B (.move x) (ev st.fr) st.σ (hold (fun r σ'=>ZAF N d r st.fr σ' (hold K .mk)) .mk)):=rfl
theorem ZNc {x:Operand}{fr:Frm}{σ:ZB}{K:AV->Prop}{k:Box K}:ZCi P B (.move x) fr σ (hold K k)=(aef P B (.move x) (ev fr) σ (hold (fun r σ'=>chk (σ'=σ) (hold (K r) .mk)) .mk)):=rfl
theorem ZKd {x:Operand}{d:Option Nat}{t:TypeId}{p:String}{es:Array Edge}{g:Option (Nat×Bool)}{st:ASt}{K:ASt->Prop}{k:Box K}:aop P B N ⟨d,.assign x,t,p,es,g⟩ st (hold K k)=(aef P B (.assign x) (ev st.fr) st.σ (hold (fun r σ'=>ZAF N d r st.fr σ' (hold K .mk)) .mk)):=rfl
theorem ZKR {x:Operand}{fr:Frm}{σ:ZB}{K:AV->Prop}{k:Box K}:ZCi P B (.assign x) fr σ (hold K k)=(aef P B (.assign x) (ev fr) σ (hold (fun r σ'=>chk (σ'=σ) (hold (K r) .mk)) .mk)):=rfl
theorem ZNv {c a b:Operand}{d:Option Nat}{t:TypeId}{p:String}{es:Array Edge}{g:Option (Nat×Bool)}{st:ASt}{K:ASt->Prop}{k:Box K}:aop P B N ⟨d,.pick c a b,t,p,es,g⟩ st (hold K k)=(aef P B (.pick c a b) (ev st.fr) st.σ (hold (fun r σ'=>ZAF N d r st.fr σ' (hold K .mk)) .mk)):=rfl
theorem ZNb {c a b:Operand}{fr:Frm}{σ:ZB}{K:AV->Prop}{k:Box K}:ZCi P B (.pick c a b) fr σ (hold K k)=(aef P B (.pick c a b) (ev fr) σ (hold (fun r σ'=>chk (σ'=σ) (hold (K r) .mk)) .mk)):=rfl
theorem ZMW {e:TypeId}{d:Option Nat}{t:TypeId}{p:String}{es:Array Edge}{g:Option (Nat×Bool)}{st:ASt}{K:ASt->Prop}{k:Box K}:aop P B N ⟨d,.alloc e,t,p,es,g⟩ st (hold K k)=(aef P B (.alloc e) (ev st.fr) st.σ (hold (fun r σ'=>ZAF N d r st.fr σ' (hold K .mk)) .mk)):=rfl
theorem ZME {e:TypeId}{fr:Frm}{σ:ZB}{K:AV->Prop}{k:Box K}:ZCi P B (.alloc e) fr σ (hold K k)=(aef P B (.alloc e) (ev fr) σ (hold (fun r σ'=>chk (σ'=σ) (hold (K r) .mk)) .mk)):=rfl
theorem ZO1 {e:TypeId}{x:Operand}{d:Option Nat}{t:TypeId}{p:String}{es:Array Edge}{g:Option (Nat×Bool)}{st:ASt}{K:ASt->Prop}{k:Box K}:aop P B N ⟨d,.box e x,t,p,es,g⟩ st (hold K k)=(aef P B (.box e x) (ev st.fr) st.σ (hold (fun r σ'=>ZAF N d r st.fr σ' (hold K .mk)) .mk)):=rfl
theorem ZOx {e:TypeId}{x:Operand}{fr:Frm}{σ:ZB}{K:AV->Prop}{k:Box K}:ZCi P B (.box e x) fr σ (hold K k)=(aef P B (.box e x) (ev fr) σ (hold (fun r σ'=>chk (σ'=σ) (hold (K r) .mk)) .mk)):=rfl
theorem ZMU {ty:TypeId}{parts:Array (Nat×Operand)}{d:Option Nat}{t:TypeId}{p:String}{es:Array Edge}{g:Option (Nat×Bool)}{st:ASt}{K:ASt->Prop}{k:Box K}:aop P B N ⟨d,.build ty parts,t,p,es,g⟩ st (hold K k)=(aef P B (.build ty parts) (ev st.fr) st.σ (hold (fun r σ'=>ZAF N d r st.fr σ' (hold K .mk)) .mk)):=rfl
theorem ZMC {ty:TypeId}{parts:Array (Nat×Operand)}{fr:Frm}{σ:ZB}{K:AV->Prop}{k:Box K}:ZCi P B (.build ty parts) fr σ (hold K k)=(aef P B (.build ty parts) (ev fr) σ (hold (fun r σ'=>chk (σ'=σ) (hold (K r) .mk)) .mk)):=rfl
theorem ZFR {ty:TypeId}{len:Nat}{parts:Array (Nat×Operand)}{d:Option Nat}{t:TypeId}{p:String}{es:Array Edge}{g:Option (Nat×Bool)}{st:ASt}{K:ASt->Prop}{k:Box K}:aop P B N ⟨d,.buildSlice ty len parts,t,p,es,g⟩ st (hold K k)=(aef P B (.buildSlice ty len parts) (ev st.fr) st.σ (hold (fun r σ'=>ZAF N d r st.fr σ' (hold K .mk)) .mk)):=rfl
theorem ZFH {ty:TypeId}{len:Nat}{parts:Array (Nat×Operand)}{fr:Frm}{σ:ZB}{K:AV->Prop}{k:Box K}:ZCi P B (.buildSlice ty len parts) fr σ (hold K k)=(aef P B (.buildSlice ty len parts) (ev fr) σ (hold (fun r σ'=>chk (σ'=σ) (hold (K r) .mk)) .mk)):=rfl
theorem ZNx {ty:TypeId}{x:Operand}{d:Option Nat}{t:TypeId}{p:String}{es:Array Edge}{g:Option (Nat×Bool)}{st:ASt}{K:ASt->Prop}{k:Box K}:aop P B N ⟨d,.load ty x,t,p,es,g⟩ st (hold K k)=(aef P B (.load ty x) (ev st.fr) st.σ (hold (fun r σ'=>ZAF N d r st.fr σ' (hold K .mk)) .mk)):=rfl
theorem ZNd {ty:TypeId}{x:Operand}{fr:Frm}{σ:ZB}{K:AV->Prop}{k:Box K}:ZCi P B (.load ty x) fr σ (hold K k)=(aef P B (.load ty x) (ev fr) σ (hold (fun r σ'=>chk (σ'=σ) (hold (K r) .mk)) .mk)):=rfl
theorem ZMR {ty:TypeId}{x v:Operand}{d:Option Nat}{t:TypeId}{p:String}{es:Array Edge}{g:Option (Nat×Bool)}{st:ASt}{K:ASt->Prop}{k:Box K}:aop P B N ⟨d,.store ty x v,t,p,es,g⟩ st (hold K k)=(aef P B (.store ty x v) (ev st.fr) st.σ (hold (fun r σ'=>ZAF N d r st.fr σ' (hold K .mk)) .mk)):=rfl
theorem ZL9 {ty:TypeId}{x v:Operand}{fr:Frm}{σ:ZB}{K:AV->Prop}{k:Box K}:ZCi P B (.store ty x v) fr σ (hold K k)=(aef P B (.store ty x v) (ev fr) σ (hold (fun r σ'=>chk (σ'=σ) (hold (K r) .mk)) .mk)):=rfl
theorem ZH6 {x:Operand}{d:Option Nat}{t:TypeId}{p:String}{es:Array Edge}{g:Option (Nat×Bool)}{st:ASt}{K:ASt->Prop}{k:Box K}:aop P B N ⟨d,.nilCheck x,t,p,es,g⟩ st (hold K k)=(aef P B (.nilCheck x) (ev st.fr) st.σ (hold (fun r σ'=>ZAF N d r st.fr σ' (hold K .mk)) .mk)):=rfl
theorem ZHt {x:Operand}{fr:Frm}{σ:ZB}{K:AV->Prop}{k:Box K}:ZCi P B (.nilCheck x) fr σ (hold K k)=(aef P B (.nilCheck x) (ev fr) σ (hold (fun r σ'=>chk (σ'=σ) (hold (K r) .mk)) .mk)):=rfl
theorem ZMV {op:BinOp}{ty:TypeId}{x y:Operand}{ty2:TypeId}{d:Option Nat}{t:TypeId}{p:String}{es:Array Edge}{g:Option (Nat×Bool)}{st:ASt}{K:ASt->Prop}{k:Box K}:aop P B N ⟨d,.binOp op ty x y ty2,t,p,es,g⟩ st (hold K k)=(aef P B (.binOp op ty x y ty2) (ev st.fr) st.σ (hold (fun r σ'=>ZAF N d r st.fr σ' (hold K .mk)) .mk)):=rfl
theorem ZMD {op:BinOp}{ty:TypeId}{x y:Operand}{ty2:TypeId}{fr:Frm}{σ:ZB}{K:AV->Prop}{k:Box K}:ZCi P B (.binOp op ty x y ty2) fr σ (hold K k)=(aef P B (.binOp op ty x y ty2) (ev fr) σ (hold (fun r σ'=>chk (σ'=σ) (hold (K r) .mk)) .mk)):=rfl
theorem ZNu {op:UnOp}{ty:TypeId}{x:Operand}{d:Option Nat}{t:TypeId}{p:String}{es:Array Edge}{g:Option (Nat×Bool)}{st:ASt}{K:ASt->Prop}{k:Box K}:aop P B N ⟨d,.unOp op ty x,t,p,es,g⟩ st (hold K k)=(aef P B (.unOp op ty x) (ev st.fr) st.σ (hold (fun r σ'=>ZAF N d r st.fr σ' (hold K .mk)) .mk)):=rfl
theorem ZNa {op:UnOp}{ty:TypeId}{x:Operand}{fr:Frm}{σ:ZB}{K:AV->Prop}{k:Box K}:ZCi P B (.unOp op ty x) fr σ (hold K k)=(aef P B (.unOp op ty x) (ev fr) σ (hold (fun r σ'=>chk (σ'=σ) (hold (K r) .mk)) .mk)):=rfl
theorem ZJT {ty ty2:TypeId}{x:Operand}{d:Option Nat}{t:TypeId}{p:String}{es:Array Edge}{g:Option (Nat×Bool)}{st:ASt}{K:ASt->Prop}{k:Box K}:aop P B N ⟨d,.convert ty ty2 x,t,p,es,g⟩ st (hold K k)=(aef P B (.convert ty ty2 x) (ev st.fr) st.σ (hold (fun r σ'=>ZAF N d r st.fr σ' (hold K .mk)) .mk)):=rfl
theorem ZI1 {ty ty2:TypeId}{x:Operand}{fr:Frm}{σ:ZB}{K:AV->Prop}{k:Box K}:ZCi P B (.convert ty ty2 x) fr σ (hold K k)=(aef P B (.convert ty ty2 x) (ev fr) σ (hold (fun r σ'=>chk (σ'=σ) (hold (K r) .mk)) .mk)):=rfl
theorem ZH7 {fn:Fn}{first captured:Array Operand}{d:Option Nat}{t:TypeId}{p:String}{es:Array Edge}{g:Option (Nat×Bool)}{st:ASt}{K:ASt->Prop}{k:Box K}:aop P B N ⟨d,.makeFunc fn first captured,t,p,es,g⟩ st (hold K k)=(aef P B (.makeFunc fn first captured) (ev st.fr) st.σ (hold (fun r σ'=>ZAF N d r st.fr σ' (hold K .mk)) .mk)):=rfl
theorem ZHu {fn:Fn}{first captured:Array Operand}{fr:Frm}{σ:ZB}{K:AV->Prop}{k:Box K}:ZCi P B (.makeFunc fn first captured) fr σ (hold K k)=(aef P B (.makeFunc fn first captured) (ev fr) σ (hold (fun r σ'=>chk (σ'=σ) (hold (K r) .mk)) .mk)):=rfl
theorem ZGT {ty:TypeId}{len cap:Operand}{d:Option Nat}{t:TypeId}{p:String}{es:Array Edge}{g:Option (Nat×Bool)}{st:ASt}{K:ASt->Prop}{k:Box K}:aop P B N ⟨d,.makeSlice ty len cap,t,p,es,g⟩ st (hold K k)=(aef P B (.makeSlice ty len cap) (ev st.fr) st.σ (hold (fun r σ'=>ZAF N d r st.fr σ' (hold K .mk)) .mk)):=rfl
theorem ZGJ {ty:TypeId}{len cap:Operand}{fr:Frm}{σ:ZB}{K:AV->Prop}{k:Box K}:ZCi P B (.makeSlice ty len cap) fr σ (hold K k)=(aef P B (.makeSlice ty len cap) (ev fr) σ (hold (fun r σ'=>chk (σ'=σ) (hold (K r) .mk)) .mk)):=rfl
theorem ZMS {ty:TypeId}{x:Operand}{low high mx:Option Operand}{d:Option Nat}{t:TypeId}{p:String}{es:Array Edge}{g:Option (Nat×Bool)}{st:ASt}{K:ASt->Prop}{k:Box K}:aop P B N ⟨d,.slice ty x low high mx,t,p,es,g⟩ st (hold K k)=(aef P B (.slice ty x low high mx) (ev st.fr) st.σ (hold (fun r σ'=>ZAF N d r st.fr σ' (hold K .mk)) .mk)):=rfl
theorem ZMA {ty:TypeId}{x:Operand}{low high mx:Option Operand}{fr:Frm}{σ:ZB}{K:AV->Prop}{k:Box K}:ZCi P B (.slice ty x low high mx) fr σ (hold K k)=(aef P B (.slice ty x low high mx) (ev fr) σ (hold (fun r σ'=>chk (σ'=σ) (hold (K r) .mk)) .mk)):=rfl
theorem ZGV {ty:TypeId}{x:Operand}{f:Nat}{d:Option Nat}{t:TypeId}{p:String}{es:Array Edge}{g:Option (Nat×Bool)}{st:ASt}{K:ASt->Prop}{k:Box K}:aop P B N ⟨d,.fieldAddr ty x f,t,p,es,g⟩ st (hold K k)=(aef P B (.fieldAddr ty x f) (ev st.fr) st.σ (hold (fun r σ'=>ZAF N d r st.fr σ' (hold K .mk)) .mk)):=rfl
theorem ZGL {ty:TypeId}{x:Operand}{f:Nat}{fr:Frm}{σ:ZB}{K:AV->Prop}{k:Box K}:ZCi P B (.fieldAddr ty x f) fr σ (hold K k)=(aef P B (.fieldAddr ty x f) (ev fr) σ (hold (fun r σ'=>chk (σ'=σ) (hold (K r) .mk)) .mk)):=rfl
theorem ZGU {ty:TypeId}{x i:Operand}{d:Option Nat}{t:TypeId}{p:String}{es:Array Edge}{g:Option (Nat×Bool)}{st:ASt}{K:ASt->Prop}{k:Box K}:aop P B N ⟨d,.indexAddr ty x i,t,p,es,g⟩ st (hold K k)=(aef P B (.indexAddr ty x i) (ev st.fr) st.σ (hold (fun r σ'=>ZAF N d r st.fr σ' (hold K .mk)) .mk)):=rfl
theorem ZGK {ty:TypeId}{x i:Operand}{fr:Frm}{σ:ZB}{K:AV->Prop}{k:Box K}:ZCi P B (.indexAddr ty x i) fr σ (hold K k)=(aef P B (.indexAddr ty x i) (ev fr) σ (hold (fun r σ'=>chk (σ'=σ) (hold (K r) .mk)) .mk)):=rfl
theorem ZMT {ty:TypeId}{x i:Operand}{d:Option Nat}{t:TypeId}{p:String}{es:Array Edge}{g:Option (Nat×Bool)}{st:ASt}{K:ASt->Prop}{k:Box K}:aop P B N ⟨d,.index ty x i,t,p,es,g⟩ st (hold K k)=(aef P B (.index ty x i) (ev st.fr) st.σ (hold (fun r σ'=>ZAF N d r st.fr σ' (hold K .mk)) .mk)):=rfl
theorem ZMB {ty:TypeId}{x i:Operand}{fr:Frm}{σ:ZB}{K:AV->Prop}{k:Box K}:ZCi P B (.index ty x i) fr σ (hold K k)=(aef P B (.index ty x i) (ev fr) σ (hold (fun r σ'=>chk (σ'=σ) (hold (K r) .mk)) .mk)):=rfl
theorem ZJS {x:Operand}{i:Nat}{d:Option Nat}{t:TypeId}{p:String}{es:Array Edge}{g:Option (Nat×Bool)}{st:ASt}{K:ASt->Prop}{k:Box K}:aop P B N ⟨d,.extract x i,t,p,es,g⟩ st (hold K k)=(aef P B (.extract x i) (ev st.fr) st.σ (hold (fun r σ'=>ZAF N d r st.fr σ' (hold K .mk)) .mk)):=rfl
theorem ZI0 {x:Operand}{i:Nat}{fr:Frm}{σ:ZB}{K:AV->Prop}{k:Box K}:ZCi P B (.extract x i) fr σ (hold K k)=(aef P B (.extract x i) (ev fr) σ (hold (fun r σ'=>chk (σ'=σ) (hold (K r) .mk)) .mk)):=rfl
theorem ZJU {bi:Builtin}{args:Array Operand}{ts:Array TypeId}{d:Option Nat}{t:TypeId}{p:String}{es:Array Edge}{g:Option (Nat×Bool)}{st:ASt}{K:ASt->Prop}{k:Box K}:aop P B N ⟨d,.call {callee:=.builtin bi,args:=args,argTypes:=ts},t,p,es,g⟩ st (hold K k)=(aef P B (.call {callee:=.builtin bi,args:=args,argTypes:=ts}) (ev st.fr) st.σ (hold (fun r σ'=>ZAF N d r st.fr σ' (hold K .mk)) .mk)):=rfl
theorem ZI2 {bi:Builtin}{args:Array Operand}{ts:Array TypeId}{fr:Frm}{σ:ZB}{K:AV->Prop}{k:Box K}:ZCi P B (.call {callee:=.builtin bi,args:=args,argTypes:=ts}) fr σ (hold K k)=(aef P B (.call {callee:=.builtin bi,args:=args,argTypes:=ts}) (ev fr) σ (hold (fun r σ'=>chk (σ'=σ) (hold (K r) .mk)) .mk)):=rfl
theorem ZNy {f:Operand}{args:Array Operand}{ts:Array TypeId}{d:Option Nat}{t:TypeId}{p:String}{es:Array Edge}{g:Option (Nat×Bool)}{st:ASt}{K:ASt->Prop}{k:Box K}:aop P B N ⟨d,.call {callee:=.value f,args:=args,argTypes:=ts},t,p,es,g⟩ st (hold K k)=(ZF1 P B (ev st.fr f) (args.toList.map (ev st.fr)) st.σ (hold (fun r σ'=>ZAF N d r st.fr σ' (hold K .mk)) .mk)):=rfl
theorem ZNe {f:Operand}{args:Array Operand}{ts:Array TypeId}{fr:Frm}{σ:ZB}{K:AV->Prop}{k:Box K}:ZCi P B (.call {callee:=.value f,args:=args,argTypes:=ts}) fr σ (hold K k)=(PCall P B (ev fr f) (args.toList.map (ev fr)) (hold K .mk)):=rfl
theorem ZMh {f : AV} {args : List AV} {σ : ZB}{K : AV -> ZB -> Prop} {k : Box K} : ZF1 P B f args σ (hold K k) = (match f with
    | .fn (.func i) first cap=>ACall P B i (first++args++cap) σ (hold K .mk)
    |_=>False):=by
  cases f<;>try rfl
theorem ZMg {f : AV} {args : List AV}{K : AV -> Prop} {k : Box K} : PCall P B f args (hold K k) = (match f with
    | .fn (.func i) first cap=>ZDj P B i (first++args++cap) (hold K .mk)
    |_=>False):=by
  cases f<;>try rfl
theorem ZIF {r:AV}{fr:Frm}{σ:ZB}{K:ASt->Prop}{k:Box K}:ZAF N none r fr σ (hold K k)=(K ⟨fr,σ⟩):=rfl
theorem ZIE {d:Nat}{r:AV}{fr:Frm}{σ:ZB}{K:ASt->Prop}{k:Box K}(h:d<N):ZAF N (some d) r fr σ (hold K k)=K ⟨(d,r)::fr,σ⟩:=by simp[ZAF,hold,h]
theorem ZMj {ops:Array Oper}{fr:Frm}{σ:ZB}{K:Frm->Prop}{k:Box K}:aP P B N ops [] fr σ (hold K k)=(K fr):=rfl
theorem ZKo {ops:Array Oper}{bo:Box ops}{o:Oper}{rest:List Oper}{fr:Frm}{σ:ZB}{K:Frm->Prop}{k:Box K}:aP P B N (hold ops bo) (o::rest) fr σ (hold K k)=(ZAT (hold ops .mk) fr o.guard (hold (ZCi P B o.op fr σ (hold (fun r=>ZE3 N o.dst (hold (aP P B N (hold ops .mk) rest (ZAL o.dst r fr) σ (hold K .mk)) .mk)) .mk)) .mk) (hold (ZE3 N o.dst (hold (aP P B N (hold ops .mk) rest (ZAL o.dst (.lit undef) fr) σ (hold K .mk)) .mk)) .mk)):=by rw[aP];rfl
theorem ZII {K:Prop}{k:Box K}:ZE3 N none (hold K k)=(K):=by simp[ZE3,dOk,hold]
theorem ZIH {d:Nat}{K:Prop}{k:Box K}(h:d<N):ZE3 N (some d) (hold K k)=K:=by simp[ZE3,dOk,hold,h]
theorem ZFc {α:Type}{l:List α}:(List.toArray l).toList=(l):=rfl
theorem ZOQ {x:Operand}{ρ:Operand->AV}{σ:ZB}{K:AV->ZB->Prop}{k:Box K}:aef P B (.move x) ρ σ (hold K k)=(K (ρ x) σ):=rfl
theorem ZLA {x:Operand}{ρ:Operand->AV}{σ:ZB}{K:AV->ZB->Prop}{k:Box K}:aef P B (.assign x) ρ σ (hold K k)=(K (ρ x) σ):=rfl
theorem ZOP {c a b : Operand}{ρ : Operand -> AV} {σ : ZB}{K : AV -> ZB -> Prop} {k : Box K} : aef P B (.pick c a b) ρ σ (hold K k) = (match ρ c with
    | .lit (.bool v)=>abr (v=true) (hold (K (ρ a) σ) .mk) (hold (K (ρ b) σ) .mk)
    |_=>False):=by
  simp only[aef,hold]
  generalize ρ c=v
  cases v<;>try rfl
  next v=>cases v<;>first|(rename_i v;cases v<;>simp[abr];done)|rfl
theorem ZM8 {t : TypeId}{ρ : Operand -> AV} {σ : ZB}{K : AV -> ZB -> Prop} {k : Box K} : aef P B (.alloc t) ρ σ (hold K k) = (match Zh P t with
    |some i=>chk (i.zero≠[]) (hold (K (.ptr σ.length 0) (σ++[.cells (i.zero.map .lit)])) .mk)
    |none=>False):=rfl
theorem ZPM {t:TypeId}{x:Operand}{ρ:Operand->AV}{σ:ZB}{K:AV->ZB->Prop}{k:Box K}:aef P B (.box t x) ρ σ (hold K k)=(AV.cellsK σ (ρ x) (hold (fun cs=>K (.ptr σ.length 0) (σ++[.cells cs])) .mk)):=rfl
theorem ZM6 {t:TypeId}{parts:Array (Nat×Operand)}{ρ:Operand->AV}{σ:ZB}{K:AV->ZB->Prop}{k:Box K}:aef P B (.build t parts) ρ σ (hold K k)=(ZBf P t σ (parts.toList.map fun p=>(p.1,ρ p.2)) (hold K .mk)):=rfl
theorem ZFo {t:TypeId}{len:Nat}{parts:Array (Nat×Operand)}{ρ:Operand->AV}{σ:ZB}{K:AV->ZB->Prop}{k:Box K}:aef P B (.buildSlice t len parts) ρ σ (hold K k)=(Zw P B t σ len (parts.toList.map fun p=>(p.1,ρ p.2)) (hold K .mk)):=rfl
theorem ZOR {t:TypeId}{x:Operand}{ρ:Operand->AV}{σ:ZB}{K:AV->ZB->Prop}{k:Box K}:aef P B (.load t x) ρ σ (hold K k)=(ZBX P t σ (ρ x) (hold (fun r=>K r σ) .mk)):=rfl
theorem ZM3 {t:TypeId}{a x:Operand}{ρ:Operand->AV}{σ:ZB}{K:AV->ZB->Prop}{k:Box K}:aef P B (.store t a x) ρ σ (hold K k)=(ZDf P t σ (ρ a) (ρ x) (hold (fun σ'=>K (.lit undef) σ') .mk)):=rfl
theorem ZIR {x:Operand}{ρ:Operand->AV}{σ:ZB}{K:AV->ZB->Prop}{k:Box K}:aef P B (.nilCheck x) ρ σ (hold K k)=(chk (ZBk σ (ρ x)) (hold (K (ρ x) σ) .mk)):=rfl
theorem ZM7 {op:BinOp}{t yt:TypeId}{x y:Operand}{ρ:Operand->AV}{σ:ZB}{K:AV->ZB->Prop}{k:Box K}:aef P B (.binOp op t x y yt) ρ σ (hold K k)=(ZNF P op t (ρ x) (ρ y) (hold (fun r=>K r σ) .mk)):=rfl
theorem ZOO {op:UnOp}{t:TypeId}{x:Operand}{ρ:Operand->AV}{σ:ZB}{K:AV->ZB->Prop}{k:Box K}:aef P B (.unOp op t x) ρ σ (hold K k)=(aUn op (ρ x) (hold (fun r=>K r σ) .mk)):=rfl
theorem ZJp {s d:TypeId}{x:Operand}{ρ:Operand->AV}{σ:ZB}{K:AV->ZB->Prop}{k:Box K}:aef P B (.convert s d x) ρ σ (hold K k)=(ZDt P s d σ (ρ x) (hold (fun r=>K r σ) .mk)):=rfl
theorem ZIS {fn:Fn}{first cap:Array Operand}{ρ:Operand->AV}{σ:ZB}{K:AV->ZB->Prop}{k:Box K}:aef P B (.makeFunc fn first cap) ρ σ (hold K k)=(K (.fn fn (first.toList.map ρ) (cap.toList.map ρ)) σ):=rfl
theorem ZGq {t:TypeId}{l c:Operand}{ρ:Operand->AV}{σ:ZB}{K:AV->ZB->Prop}{k:Box K}:aef P B (.makeSlice t l c) ρ σ (hold K k)=(ZAK P B t σ (ρ l) (ρ c) (hold K .mk)):=rfl
theorem ZM4 {t:TypeId}{x:Operand}{lo hi mx:Option Operand}{ρ:Operand->AV}{σ:ZB}{K:AV->ZB->Prop}{k:Box K}:aef P B (.slice t x lo hi mx) ρ σ (hold K k)=(ZBd P t σ (ρ x) (lo.map ρ) (hi.map ρ) (mx.map ρ) (hold K .mk)):=rfl
theorem ZGs {t:TypeId}{x:Operand}{f:Nat}{ρ:Operand->AV}{σ:ZB}{K:AV->ZB->Prop}{k:Box K}:aef P B (.fieldAddr t x f) ρ σ (hold K k)=(Zz P t σ (ρ x) f (hold (fun r=>K r σ) .mk)):=rfl
theorem ZGr {t:TypeId}{x i:Operand}{ρ:Operand->AV}{σ:ZB}{K:AV->ZB->Prop}{k:Box K}:aef P B (.indexAddr t x i) ρ σ (hold K k)=(Zv P t σ (ρ x) (ρ i) (hold (fun r=>K r σ) .mk)):=rfl
theorem ZM5 {t:TypeId}{x i:Operand}{ρ:Operand->AV}{σ:ZB}{K:AV->ZB->Prop}{k:Box K}:aef P B (.index t x i) ρ σ (hold K k)=(ZCs P t (ρ x) (ρ i) (hold (fun r=>K r σ) .mk)):=rfl
theorem ZJo {x : Operand} {i : Nat}{ρ : Operand -> AV} {σ : ZB}{K : AV -> ZB -> Prop} {k : Box K} : aef P B (.extract x i) ρ σ (hold K k) = (match ρ x with
    | .tup vs=>chk (i<vs.length) (hold (K (vs.getD i .junk) σ) .mk)
    |_=>False):=rfl
theorem ZPL {x y:Operand}{t t2:TypeId}{ρ:Operand->AV}{σ:ZB}{K:AV->ZB->Prop}{k:Box K}:aef P B (.call {callee:=.builtin .len,args:=List.toArray [x],argTypes:=List.toArray [t]}) ρ σ (hold K k)=(ZLL P t σ (ρ x) (hold (fun r=>K r σ) .mk)):=rfl
theorem ZLB {x y:Operand}{t t2:TypeId}{ρ:Operand->AV}{σ:ZB}{K:AV->ZB->Prop}{k:Box K}:aef P B (.call {callee:=.builtin .append,args:=List.toArray [x,y],argTypes:=List.toArray [t,t2]}) ρ σ (hold K k)=(ZBs P B t t2 σ (ρ x) (ρ y) (hold K .mk)):=rfl
theorem ZPK {x y : Operand} {t t2 : TypeId}{ρ : Operand -> AV} {σ : ZB}{K : AV -> ZB -> Prop} {k : Box K} : aef P B (.call { callee := .builtin .min, args := List.toArray [x, y], argTypes := List.toArray [t, t2] }) ρ σ (hold K k) = (match ρ x, ρ y with
    | .lit (.int k a),.lit (.int _ b)=>K (.lit (.int k (if b<a then b else a))) σ
    |_,_=>False):=by
  simp only[aef,hold,List.map_cons,List.map_nil]
  unfold ZA7
  generalize ρ x=v;generalize ρ y=u
  cases v<;>try rfl
  next v=>
    cases v<;>try rfl
    cases u<;>try rfl
    next u=>cases u<;>rfl
theorem ZK5 {σ:ZB}{x:AV}{K:List AV->Prop}{k:Box K}:AV.cellsK σ x (hold K k)=(match x with
  | .agg cs=>K cs
  | .lit v=>chk (ZDm v) (hold (K [.lit v]) .mk)
  | .arr es=>K [.arr es]
  | .rptr e o=>K [.rptr e o]
  | .fn f a b=>K [.fn f a b]
  | .own l n=>chk (ok1 σ (.own l n)) (hold (K [.own l n]) .mk)
  | .ptr l n=>chk (ok1 σ (.ptr l n)) (hold (K [.ptr l n]) .mk)
  | .eptr l n i o=>chk (ok1 σ (.eptr l n i o)) (hold (K [.eptr l n i o]) .mk)
  | .junk=>False
  | .pre _ _ _=>False
  | .tup _=>False):=by cases x<;>simp[AV.cellsK,ok1,hold,chk]
theorem ZPH {e:List AV}{off n:Nat}{K:List AV->Prop}{k:Box K}:rdE e off n (hold K k)=(if off=0/\n=e.length then K e else chk (off+n<=e.length) (hold (K ((e.drop off).take n)) .mk)):=rfl
theorem ZPG {σ:ZB}{p:AV}{n:Nat}{K:List AV->Prop}{k:Box K}:rdN σ p n (hold K k)=(match p with
  | .rptr e off=>rdE e off n (hold K .mk)
  | .ptr l off=>match σ[l]? with
    |some (.cells cs)=>rdE cs off n (hold K .mk)
    |_=>False
  | .eptr l k i off=>match σ[l]? with
    |some (.elems _ es)=>chk (es.length=k) (hold (chk (i<es.length) (hold (rdE (es.getD i []) off n (hold K .mk)) .mk)) .mk)
    |_=>False
  |_=>False):=rfl
theorem ZPI {σ:ZB}{p:AV}{K:AV->Prop}{k:Box K}:rd1 σ p (hold K k)=(match p with
  | .rptr e off=>chk (off<e.length) (hold (K (e.getD off .junk)) .mk)
  | .ptr l off=>match σ[l]? with
    |some (.cells cs)=>chk (off<cs.length) (hold (K (cs.getD off .junk)) .mk)
    |_=>False
  | .eptr l k i off=>match σ[l]? with
    |some (.elems _ es)=>chk (es.length=k) (hold (chk (i<es.length) (hold (chk (off<(es.getD i []).length) (hold (K ((es.getD i []).getD off .junk)) .mk)) .mk)) .mk)
    |_=>False
  |_=>False):=rfl
theorem ZMy {σ:ZB}{t:TypeId}{p:AV}{K:AV->Prop}{k:Box K}:ZBX P t σ p (hold K k)=(match Zh P t with
  |some i=>if i.sh.isAgg then rdN σ p i.size (hold (fun cs=>K (.agg cs)) .mk)else rd1 σ p (hold K .mk)
  |none=>False):=rfl
theorem ZPF {e cs:List AV}{off:Nat}{K:List AV->Prop}{k:Box K}:wrE e off cs (hold K k)=(if off=0/\cs.length=e.length then K cs
  else chk (off+cs.length<=e.length) (hold (K (e.take off++cs++e.drop (off+cs.length))) .mk)):=rfl
theorem ZPE {σ:ZB}{p:AV}{cs:List AV}{K:ZB->Prop}{k:Box K}:wrN σ p cs (hold K k)=(match p with
  | .ptr l off=>match σ[l]? with
    |some (.cells old)=>wrE old off cs (hold (fun new=>K (σ.set l (.cells new))) .mk)
    |_=>False
  | .eptr l k i off=>match σ[l]? with
    |some (.elems sz es)=>chk (es.length=k) (hold (chk (i<es.length) (hold (wrE (es.getD i []) off cs (hold (fun new=>K (σ.set l (.elems sz (es.set i (new.map (nzs σ)))))) .mk)) .mk)) .mk)
    |_=>False
  |_=>False):=rfl
theorem ZK6 {σ:ZB}{t:TypeId}{p v:AV}{K:ZB->Prop}{k:Box K}:ZDf P t σ p v (hold K k)=(match Zh P t with
  |some i=>AV.cellsK σ v (hold (fun cs=>chk (cs.length=i.size) (hold (chk (Zf σ cs) (hold (wrN σ p cs (hold K .mk)) .mk)) .mk)) .mk)
  |none=>False):=rfl
theorem ZFm {σ:ZB}{t:TypeId}{p:AV}{f:Nat}{K:AV->Prop}{k:Box K}:Zz P t σ p f (hold K k)=(match Zh P t with
  |some ⟨.struct offs,_,_⟩=>match offs[f]? with
    |some (o,s+1)=>chk (ZBk σ p) (hold (K (p.adv o)) .mk)
    |_=>False
  |_=>False):=rfl
theorem ZFk {σ:ZB}{t:TypeId}{x i:AV}{K:AV->Prop}{k:Box K}:Zv P t σ x i (hold K k)=(match i,Zh P t with
  | .lit (.int _ n),some ⟨.slice sz _ _,_,_⟩=>match x with
    | .arr es=>chk (0<=n) (hold (chk (n.toNat<es.length) (hold (chk ((es.getD n.toNat []).length=sz) (hold (K (.rptr (es.getD n.toNat []) 0)) .mk)) .mk)) .mk)
    | .own l k=>match σ[l]? with
      |some (.elems sz' es)=>chk (es.length=k) (hold (chk (sz'=sz) (hold (chk (0<=n) (hold (chk (n.toNat<k) (hold (K (.eptr l k n.toNat 0)) .mk)) .mk)) .mk)) .mk)
      |_=>False
    |_=>False
  | .lit (.int _ n),some ⟨.array len (sz+1),_,_⟩=>chk (0<=n) (hold (chk (n.toNat<len) (hold (chk (ZBk σ x) (hold (K (x.adv (n.toNat*(sz+1)))) .mk)) .mk)) .mk)
  |_,_=>False):=rfl
theorem ZK8 {t:TypeId}{x i:AV}{K:AV->Prop}{k:Box K}:ZCs P t x i (hold K k)=(match x,i with
  | .lit (.string s),.lit (.int _ n)=>chk (P.underlying t=some .string) (hold (chk (0<=n) (hold (chk (n.toNat<s.size) (hold (K (.lit (.int .u8 (byteAt s n.toNat)))) .mk)) .mk)) .mk)
  | .agg cs,.lit (.int _ n)=>match P.underlying t with
    |some (.array len e)=>match Zh P e with
      |some j=>chk (j.sh.isAgg=false) (hold (chk (j.size=1) (hold (chk (len=cs.length) (hold (chk (0<=n) (hold (chk (n.toNat<len) (hold (K (cs.getD n.toNat .junk)) .mk)) .mk)) .mk)) .mk)) .mk)
      |none=>False
    |_=>False
  |_,_=>False):=rfl
theorem ZOM {σ:ZB}{t:TypeId}{x:AV}{K:AV->Prop}{k:Box K}:ZLL P t σ x (hold K k)=(match P.underlying t with
  |some (.slice _)=>match x with
    | .arr es=>K (.lit (.int .i64 es.length))
    | .lit (.slice none 0 0)=>K (.lit (.int .i64 0))
    | .own l k=>K (.lit (.int .i64 k))
    |_=>False
  |some .string=>match x with
    | .lit (.string s)=>K (.lit (.int .i64 s.size))
    |_=>False
  |some (.array n _)=>K (.lit (.int .i64 n))
  |_=>False):=rfl
theorem ZK4 {σ:ZB}{x:AV}{K:List (List AV)->Prop}{k:Box K}:ZCr σ x (hold K k)=(match x with
  | .arr es=>K es
  | .lit (.slice none 0 0)=>K []
  | .lit (.slice (some _) 0 _)=>K []
  | .own l k=>match σ[l]? with
    |some (.elems _ es)=>chk (es.length=k) (hold (K es) .mk)
    |_=>False
  |_=>False):=rfl
theorem ZJn {σ:ZB}{t t2:TypeId}{s x:AV}{K:AV->ZB->Prop}{k:Box K}:ZBs P B t t2 σ s x (hold K k)=(match Zh P t,P.underlying t2 with
  |some ⟨.slice sz bytes zs,_,_⟩,some (.slice _)=>
    chk (zs.length=sz) (hold (chk (sz≠0) (hold (chk (bytes≠0) (hold (ZCr σ x (hold (fun new=>chk (ZMd sz new) (hold (chk (ZH5 σ new) (hold (
      match s with
      | .lit (.slice none 0 0) => chk (new.length <= B) (hold (chk ((2 * new.length + 1024) * bytes <= 281474976710656) (hold (
          K (.own σ.length new.length) (σ++[.elems sz new])) .mk)) .mk)
      | .own l n=>match σ[l]? with
        | some (.elems sz' es) => chk (es.length = n) (hold (chk (sz' = sz) (hold (chk (n + new.length <= B) (hold (chk ((2 * (n + new.length) + 1024) * bytes <= 281474976710656) (hold (
            K (.own l (n+new.length)) (σ.set l (.elems sz (es++new)))) .mk)) .mk)) .mk)) .mk)
        |_=>False
      |_=>False) .mk)) .mk)) .mk)) .mk)) .mk)) .mk)
  |_,_=>False):=rfl
theorem ZON {op:BinOp}{t:TypeId}{x y:AV}{K:AV->Prop}{k:Box K}:ZNF P op t x y (hold K k)=(match x,y with
  | .lit (.int k a),.lit (.int k' b)=>chk (k=k') (hold (match op with
    | .add=>K (.lit (.int k (k.wrap (a+b))))
    | .sub=>K (.lit (.int k (k.wrap (a-b))))
    | .mul=>K (.lit (.int k (k.wrap (a*b))))
    | .quo=>chk (b≠0) (hold (K (.lit (.int k (k.wrap (a.tdiv b))))) .mk)
    | .rem=>chk (b≠0) (hold (K (.lit (.int k (a.tmod b)))) .mk)
    | .eql=>K (.lit (.bool (a==b)))
    | .neq=>K (.lit (.bool (a !=b)))
    | .lss=>K (.lit (.bool (a<b)))
    | .leq=>K (.lit (.bool (a<=b)))
    | .gtr=>K (.lit (.bool (a>b)))
    | .geq=>K (.lit (.bool (a≥b)))
    | .xor=>K (.lit (.int k (ZNM k a b)))
    |_=>False) .mk)
  | .lit (.string a),.lit (.string b)=>match op with
    | .add=>chk ((a.size+b.size:Nat)<=9223372036854775807) (hold (K (.lit (.string (a++b)))) .mk)
    | .eql=>K (.lit (.bool (a.toList==b.toList)))
    | .neq=>K (.lit (.bool (!(a.toList==b.toList))))
    |_=>False
  | .lit (.bool a),.lit (.bool b)=>chk (P.underlying t=some .bool) (hold (match op with
    | .eql=>K (.lit (.bool (a==b)))
    | .neq=>K (.lit (.bool (!(a==b))))
    |_=>False) .mk)
  | .agg xs,.agg ys=>match ZBA xs,ZBA ys with
    |some p,some q=>chk (ZCA P t=true) (hold (match op with
      | .eql=>K (.lit (.bool (dec (eq2 p q))))
      | .neq=>K (.lit (.bool (!dec (eq2 p q))))
      |_=>False) .mk)
    |_,_=>match ZBw xs,ZBw ys with
      |some p,some q=>chk (ZCm P t=true) (hold (match op with
        | .eql=>K (.lit (.bool (dec (eq3 p q))))
        | .neq=>K (.lit (.bool (!dec (eq3 p q))))
        |_=>False) .mk)
      |_,_=>match ZB3 xs,ZB3 ys with
        |some p,some q=>chk (ZD1 P t=true) (hold (match op with
          | .eql=>K (.lit (.bool (dec (eq4 p q))))
          | .neq=>K (.lit (.bool (!dec (eq4 p q))))
          |_=>False) .mk)
        |_,_=>False
  | .arr es,.lit (.slice none 0 0)=>chk (ZEm P t=true) (hold (chk (es≠[]) (hold (match op with
    | .eql=>K (.lit (.bool false))
    | .neq=>K (.lit (.bool true))
    |_=>False) .mk)) .mk)
  | .lit (.slice a n c),.lit (.slice none 0 0)=>chk (ZEm P t=true) (hold (match op with
    | .eql=>K (.lit (.bool a.isNone))
    | .neq=>K (.lit (.bool (!a.isNone)))
    |_=>False) .mk)
  |_,_=>False):=rfl
theorem ZPJ {op:UnOp}{x:AV}{K:AV->Prop}{k:Box K}:aUn op x (hold K k)=(match op,x with
  | .not,.lit (.bool b)=>K (.lit (.bool (!b)))
  | .neg,.lit (.int k n)=>K (.lit (.int k (k.wrap (0-n))))
  |_,_=>False):=rfl
theorem ZMz {s d:TypeId}{σ:ZB}{x:AV}{K:AV->Prop}{k:Box K}:ZDt P s d σ x (hold K k)=(match P.underlying s,P.underlying d,x with
  |some (.int _),some (.int k),.lit (.int _ n)=>K (.lit (.int k (k.wrap n)))
  |some (.slice e),some .string,.arr es=>chk (ZA4 P (some (.slice e))=true) (hold (match u8s es with
    |some ns=>K (.lit (.string (ZF3 ns)))
    |none=>False) .mk)
  |some (.slice e),some .string,.own l n=>chk (ZA4 P (some (.slice e))=true) (hold (match σ[l]? with
    |some (.elems _ es)=>chk (es.length=n) (hold (match u8s es with
      |some ns=>K (.lit (.string (ZF3 ns)))
      |none=>False) .mk)
    |_=>False) .mk)
  |_,_,_=>False):=rfl
theorem ZJm {σ:ZB}{K:List AV->ZB->Prop}{k:Box K}:frz σ [] (hold K k)=(K [] σ):=id rfl
theorem ZIM {σ:ZB}{x:AV}{r:List AV}{K:List AV->ZB->Prop}{k:Box K}:frz σ (x::r) (hold K k)=(match x with
  | .own l n=>(match σ[l]? with
    |some (.elems _ es)=>chk (es.length=n) (hold (chk (Zo es) (hold (frz (σ.set l .dead) r (hold (fun r' σ'=>K (.arr es::r') σ') .mk)) .mk)) .mk)
    |_=>False)
  | .lit v=>frz σ r (hold (fun r' σ'=>K (.lit v::r') σ') .mk)
  | .arr v=>frz σ r (hold (fun r' σ'=>K (.arr v::r') σ') .mk)
  |y=>frz σ r (hold (fun r' σ'=>K (y::r') σ') .mk)):=by
  simp only[hold]
  cases x with
  |own l n=>simp only[frz];generalize σ[l]? =ob;rcases ob with _|(_|cs|⟨sz,es⟩)<;>rfl
  |_=>rfl
theorem ZIL {σ:ZB}{K:List (List AV)->ZB->Prop}{k:Box K}:ZLq σ [] (hold K k)=(K [] σ):=id rfl
theorem ZGk {σ:ZB}{x:List AV}{r:List (List AV)}{K:List (List AV)->ZB->Prop}{k:Box K}:ZLq σ (x::r) (hold K k)=(frz σ x (hold (fun e' σ'=>ZLq σ' r (hold (fun r' σ''=>K (e'::r') σ'') .mk)) .mk)):=id rfl
theorem ZOK {σ:ZB}{x:AV}{K:AV->ZB->Prop}{k:Box K}:ZGg σ x (hold K k)=(match x with
  | .agg cs=>frz σ cs (hold (fun cs' σ'=>K (.agg cs') σ') .mk)
  | .own l n=>(match σ[l]? with
    |some (.elems _ es)=>chk (es.length=n) (hold (chk (Zo es) (hold (K (.arr es) (σ.set l .dead)) .mk)) .mk)
    |_=>False)
  | .lit v=>K (.lit v) σ
  | .arr v=>K (.arr v) σ
  |y=>K y σ):=by cases x<;>rfl
theorem ZIO {σ:ZB}{K:List AV->ZB->Prop}{k:Box K}:ZJj σ [] (hold K k)=(K [] σ):=rfl
theorem ZGm {σ:ZB}{x:AV}{r:List AV}{K:List AV->ZB->Prop}{k:Box K}:ZJj σ (x::r) (hold K k)=(ZGg σ x (hold (fun x' σ'=>ZJj σ' r (hold (fun r' σ''=>K (x'::r') σ'') .mk)) .mk)):=rfl
theorem ZOJ {σ:ZB}{x:AV}{K:AV->ZB->Prop}{k:Box K}:ZKw σ x (hold K k)=(match x with
  | .tup xs=>ZJj σ xs (hold (fun xs' σ'=>K (.tup xs') σ') .mk)
  | .lit v=>K (.lit v) σ
  | .arr v=>K (.arr v) σ
  |y=>ZGg σ y (hold K .mk)):=by cases x<;>rfl
theorem ZIQ {σ:ZB}{fr:Frm}{K:List AV->Prop}{k:Box K}:ZBt P σ fr [] (hold K k)=(K []):=rfl
theorem ZIP {σ:ZB}{fr:Frm}{t:Nat}{r:List ResultVar}{K:List AV->Prop}{k:Box K}:ZBt P σ fr (.tmp t::r) (hold K k)=(ZBt P σ fr r (hold (fun xs=>K (lk fr t::xs)) .mk)):=rfl
theorem ZGn {σ:ZB}{fr:Frm}{a:Nat}{t:TypeId}{r:List ResultVar}{K:List AV->Prop}{k:Box K}:ZBt P σ fr (.cell a t::r) (hold K k)=(ZBX P t σ (lk fr a) (hold (fun x=>ZBt P σ fr r (hold (fun xs=>K (x::xs)) .mk)) .mk)):=rfl
theorem ZGo {place:Nat->Option (Nat×Nat)}{σ:ZB}{cs:List AV}{K:List AV->Prop}{k:Box K}:ZBH place σ cs [] (hold K k)=(K cs):=rfl
theorem ZFl {place : Nat -> Option (Nat × Nat)}{σ : ZB}{cs : List AV} {i : Nat} {x : AV} {rest : List (Nat × AV)}{K : List AV -> Prop} {k : Box K} : ZBH place σ cs ((i, x) :: rest) (hold K k) = (match place i with
    |some (off,size)=>AV.cellsK σ x (hold (fun new=>chk (new.length=size) (hold (wrE cs off new (hold (fun cs'=>ZBH place σ cs' rest (hold K .mk)) .mk)) .mk)) .mk)
    |none=>False):=rfl
theorem ZK9 {σ:ZB}{t:TypeId}{ps:List (Nat×AV)}{K:AV->ZB->Prop}{k:Box K}:ZBf P t σ ps (hold K k)=(match Zh P t with
  |some ⟨.struct offs,_,z⟩=>chk ((∀p,p∈offs->p.2≠0)) (hold (chk (z≠[]) (hold (ZBH (fun i=>offs[i]?) σ (z.map .lit) ps (hold (fun cs=>bfrz σ cs (hold (fun cs' σ'=>K (.agg cs') σ') .mk)) .mk)) .mk)) .mk)
  |_=>False):=rfl
theorem ZOL {σ:ZB}{cs:List AV}{K:List AV->ZB->Prop}{k:Box K}:bfrz σ cs (hold K k)=(if σ.any isM=true then K cs σ else frz σ cs (hold K .mk)):=rfl
theorem ZJe {n:Nat}{es:List (List AV)}:isM (.elems n es)=decide (n=0):=by cases n<;>rfl
theorem ZJf {cs:List AV}:isM (.cells cs)=false:=rfl
theorem ZKm :isM .dead=false:=rfl
theorem ZKl {xs:List AV}{vs:List Value}:isM (.pack xs vs)=true:=rfl
theorem ZIC {n:Nat}{es:List (List AV)}:ZN3 (.elems n es)=false:=rfl
theorem ZID {cs:List AV}:ZN3 (.cells cs)=false:=rfl
theorem ZJd :ZN3 .dead=false:=rfl
theorem ZJc {xs:List AV}{vs:List Value}:ZN3 (.pack xs vs)=true:=rfl
theorem ZFn {σ:ZB}{sz j:Nat}{K:List (List AV)->Prop}{k:Box K}:ZBe σ sz j [] (hold K k)=(K []):=rfl
theorem ZEq {σ:ZB}{sz j i:Nat}{x:AV}{rest:List (Nat×AV)}{K:List (List AV)->Prop}{k:Box K}:ZBe σ sz j ((i,x)::rest) (hold K k)=(chk (i=j) (hold (AV.cellsK σ x (hold (fun e=>chk (e.length=sz) (hold (ZBe σ sz (j+1) rest (hold (fun es=>K (e.map (nzs σ)::es)) .mk)) .mk)) .mk)) .mk)):=rfl
theorem ZEr {σ:ZB}{t:TypeId}{len:Nat}{ps:List (Nat×AV)}{K:AV->ZB->Prop}{k:Box K}:Zw P B t σ len ps (hold K k)=(match Zh P t with
  |some ⟨.slice sz _ z,_,_⟩=>chk (ps.length=len) (hold (chk (len*sz<=16777216) (hold (chk (len<=B) (hold (chk (z.length=sz) (hold (chk (sz≠0) (hold (ZBe σ sz 0 ps (hold (fun es=>ZLq σ es (hold (fun es' σ'=>K (.own σ'.length len) (σ'++[.elems sz es'])) .mk)) .mk)) .mk)) .mk)) .mk)) .mk)) .mk)
  |_=>False):=rfl
theorem ZFj {σ:ZB}{t:TypeId}{l c:AV}{K:AV->ZB->Prop}{k:Box K}:ZAK P B t σ l c (hold K k)=(match Zh P t,l,c with
  |some ⟨.slice sz bytes z,_,_⟩,.lit (.int _ n),.lit (.int _ n')=>chk (n=n') (hold (chk (0<=n) (hold (chk (n<=9223372036854775807) (hold (chk (bytes*n<=281474976710656) (hold (chk (n.toNat<=B) (hold (chk (z.length=sz) (hold (chk (sz≠0) (hold (K (.own σ.length n.toNat) (σ++[.elems sz (List.replicate n.toNat ((z.map .lit).map (nzs σ)))])) .mk)) .mk)) .mk)) .mk)) .mk)) .mk)) .mk)
  |_,_,_=>False):=rfl
theorem ZK3 {x:Option AV}{d:Nat}{K:Nat->Prop}{k:Box K}:ZAX x d (hold K k)=(match x with
  |none=>K d
  |some (.lit (.int _ n))=>chk (0<=n) (hold (K n.toNat) .mk)
  |_=>False):=rfl
theorem ZK7 {σ:ZB}{t:TypeId}{x:AV}{lo hi mx:Option AV}{K:AV->ZB->Prop}{k:Box K}:ZBd P t σ x lo hi mx (hold K k)=(match x,mx with
  | .lit (.string s),none=>chk (P.underlying t=some .string) (hold (
    ZAX lo 0 (hold (fun l=>ZAX hi s.size (hold (fun h=>chk (l<=h) (hold (chk (h<=s.size) (hold (K (.lit (.string (s.extract l h))) σ) .mk)) .mk)) .mk)) .mk)) .mk)
  | .arr es,none=>match Zh P t with
    |some ⟨.slice sz _ _,_,_⟩=>chk (ZMd sz es) (hold (
      ZAX lo 0 (hold (fun l=>ZAX hi es.length (hold (fun h=>chk (l<=h) (hold (chk (h<=es.length) (hold (K (.arr ((es.drop l).take (h-l))) σ) .mk)) .mk)) .mk)) .mk)) .mk)
    |_=>False
  | .own l n,none=>match lo,Zh P t with
    |none,some ⟨.slice _ _ _,_,_⟩=>ZAX hi n (hold (fun h=>chk (h<=n) (hold (K (.pre l n h) σ) .mk)) .mk)
    |_,_=>False
  |_,_=>False):=rfl
theorem ZMx {σ:ZB}{x:AV}:ZBk σ x=(match x with
  | .rptr _ _=>True
  | .ptr l _=>match σ[l]? with
    |some (.cells _)=>True
    |_=>False
  | .eptr l k _ _=>match σ[l]? with
    |some (.elems _ es)=>es.length=k/\es≠[]
    |_=>False
  |_=>False):=rfl
end
attribute [simp ↓] ZEz ZDs ZLD ZKP ZOw ZNY ZEa ZHr ZGI ZN5 ZKn ZN8 ZO9 ZN9 ZMi ZN6 ZN7 ZPA ZKN ZOs ZNU ZLF ZPP ZOb ZOz ZKX ZJh ZIG ZGe ZGd ZNw ZNc ZKd ZKR ZNv ZNb ZMW ZME ZO1 ZOx ZMU ZMC ZFR ZFH ZNx ZNd ZMR ZL9 ZH6 ZHt ZMV ZMD ZNu ZNa ZJT ZI1 ZH7 ZHu ZGT ZGJ ZMS ZMA ZGV ZGL ZGU ZGK ZMT ZMB ZJS ZI0 ZJU ZI2 ZNy ZNe ZMh ZMg ZIF ZIE ZMj ZKo ZII ZIH ZFc ZOQ ZLA ZOP ZM8 ZPM ZM6 ZFo ZOR ZM3 ZIR ZM7 ZOO ZJp ZIS ZGq ZM4 ZGs ZGr ZM5 ZJo ZPL ZLB ZPK ZK5 ZPH ZPG ZPI ZMy ZPF ZPE ZK6 ZFm ZFk ZK8 ZOM ZK4 ZJn ZON ZPJ ZMz ZJm ZIM ZIL ZGk ZOK ZIO ZGm ZOJ ZIQ ZIP ZGn ZGo ZFl ZK9 ZOL ZFn ZEq ZEr ZFj ZK3 ZK7 ZMx
attribute [simp] ZHh ZF9 ZOp u8s ZA4
attribute [simp] ZJe ZJf ZKm ZKl ZIC ZID ZJd ZJc nzs
attribute [simp] nz AV.le AV.le.les ZOF ZE7 Blk.le pack ZFI Blk.closed ZAB ZOG AV.bnd AV.bnd.bnds ev ZC4 lk AV.adv Sh.isAgg ZAL
theorem ZOY {n:Nat}{v:Value}:AV.closed n (.lit v)↔True:=by simp[AV.closed]
theorem ZOZ {n:Nat}{es:List (List AV)}:AV.closed n (.arr es)↔True:=by simp[AV.closed]
theorem ZNA {n:Nat}{e:List AV}{o:Nat}:AV.closed n (.rptr e o)↔True:=by simp[AV.closed]
theorem ZOX {n l k:Nat}:AV.closed n (.own l k)↔l<n:=by simp[AV.closed]
theorem ZOW {n l k:Nat}:AV.closed n (.ptr l k)↔l<n:=by simp[AV.closed]
theorem ZOa {n:Nat}{cs:List AV}:AV.closed n (.agg cs)↔AV.closed.closeds n cs:=by simp[AV.closed]
theorem ZOV {n:Nat}{cs:List AV}:AV.closed n (.tup cs)↔AV.closed.closeds n cs:=by simp[AV.closed]
theorem ZPO {n:Nat}{f:Fn}{xs ys:List AV}:AV.closed n (.fn f xs ys)↔AV.closed.closeds n xs/\AV.closed.closeds n ys:=by simp[AV.closed]
theorem ZM9 {n:Nat}:AV.closed.closeds n []↔True:=by simp[AV.closed.closeds]
theorem ZLC {n:Nat}{x:AV}{r:List AV}:AV.closed.closeds n (x::r)↔x.closed n/\AV.closed.closeds n r:=by simp[AV.closed.closeds]
theorem ZNg {v:Value}:AV.pure (.lit v)↔True:=by simp[AV.pure]
theorem ZNh {es:List (List AV)}:AV.pure (.arr es)↔True:=by simp[AV.pure]
theorem ZMG {e:List AV}{o:Nat}:AV.pure (.rptr e o)↔True:=by simp[AV.pure]
theorem ZNi {cs:List AV}:AV.pure (.agg cs)↔AV.pure.pures cs:=by simp[AV.pure]
theorem ZNf {cs:List AV}:AV.pure (.tup cs)↔AV.pure.pures cs:=by simp[AV.pure]
theorem ZOy {f:Fn}{xs ys:List AV}:AV.pure (.fn f xs ys)↔AV.pure.pures xs/\AV.pure.pures ys:=by simp[AV.pure]
theorem ZMF :AV.pure.pures []↔True:=by simp[AV.pure.pures]
theorem ZKS {x:AV}{r:List AV}:AV.pure.pures (x::r)↔x.pure/\AV.pure.pures r:=by simp[AV.pure.pures]
theorem ZKb {b:Bool}:ZDm (.bool b)↔True:=by simp[ZDm]
theorem ZMN {k:IntKind}{b:Int}:ZDm (.int k b)↔True:=by simp[ZDm]
theorem ZH3 {b:ByteArray}:ZDm (.string b)↔True:=by simp[ZDm]
theorem ZJP {a:Option Addr}{l c:Nat}:ZDm (.slice a l c)↔True:=by simp[ZDm]
theorem ZGR {a:Option Addr}:ZDm (.pointer a)↔True:=by simp[ZDm]
theorem ZMM {a:Option Nat}:ZDm (.map a)↔True:=by simp[ZDm]
theorem ZGS :ZDm .nilFunc↔True:=by simp[ZDm]
theorem ZNs {σ:ZB}{v:Value}:ok1 σ (.lit v)↔ZDm v:=by simp[ok1]
theorem ZNt {σ:ZB}{es:List (List AV)}:ok1 σ (.arr es)↔True:=by simp[ok1]
theorem ZMP {σ:ZB}{e:List AV}{o:Nat}:ok1 σ (.rptr e o)↔True:=by simp[ok1]
theorem ZO0 {σ:ZB}{f:Fn}{xs ys:List AV}:ok1 σ (.fn f xs ys)↔True:=by simp[ok1]
theorem ZNr {σ:ZB}{l n:Nat}:ok1 σ (.own l n)=(match σ[l]? with|some (.elems _ es)=>es.length=n|_=>False):=rfl
theorem ZNq {σ:ZB}{l n:Nat}:ok1 σ (.ptr l n)=(match σ[l]? with|some (.cells _)=>True|_=>False):=rfl
theorem ZMQ {σ:ZB}{l n i o:Nat}:ok1 σ (.eptr l n i o)=(match σ[l]? with|some (.elems _ es)=>es.length=n/\es≠[]|_=>False):=rfl
theorem ZMO {σ:ZB}:Zf σ []↔True:=by simp[Zf]
theorem ZKc {σ:ZB}{x:AV}{r:List AV}:Zf σ (x::r)↔ok1 σ x/\Zf σ r:=by simp[Zf]
attribute [simp] ZOY ZOZ ZNA ZOX ZOW ZOa ZOV ZPO ZM9 ZLC ZNg ZNh ZMG ZNi ZNf ZOy ZMF ZKS ZKb ZMN ZH3 ZJP ZGR ZMM ZGS ZNs ZNt ZMP ZO0 ZNr ZNq ZMQ ZMO ZKc
end Go.Vl
