/- A part of the proof. -/
import Derived.Test.YtnmbhmbljbhonaaGreatVlStep
set_option linter.all false
namespace Go.Vl
open Go Go.RowKit
section
variable {P : Program} {B nb N : Nat}
theorem ZNX {Q:Exit->ASt->Prop}{q:Box Q}{st:ASt}:awp P B nb N .skip st (hold Q q)=(Q .normal st):=rfl
theorem ZKL {Q:Exit->ASt->Prop}{q:Box Q}{st:ASt}{id:Nat}{l:List Oper}:awp P B nb N (.region id (List.toArray l) false) st (hold Q q)=(ZGU P B N (hold (List.toArray l) .mk) l st (hold (Q .normal) .mk)):=by simp only[awp,Bool.false_eq_true,if_false,hold]
theorem ZNa {Q:Exit->ASt->Prop}{q:Box Q}{st:ASt}{id:Nat}{ops:Array Oper}:awp P B nb N (.region id ops true) st (hold Q q)=(ADraw P B nb N (hold ops .mk) st (hold (Q .normal) .mk)):=by simp only[awp,if_true,hold]
theorem ZOX {Q:Exit->ASt->Prop}{q:Box Q}{st:ASt}{a b:Code}:awp P B nb N (.seq a b) st (hold Q q)=(awp P B nb N a st (hold (ZN7 P B nb N b Q) .mk)):=by simp only[hold];rw[awp];congr
theorem ZNb {Q : Exit -> ASt -> Prop} {q : Box Q}{st : ASt}{c : Operand} {a b : Code} : awp P B nb N (.cond c a b) st (hold Q q) = (match ev st.fr c with
    | .lit (.bool v)=>abr (v=true) (hold (awp P B nb N a st (hold Q .mk)) .mk) (hold (awp P B nb N b st (hold Q .mk)) .mk)
    |_=>False):=by
  simp only[awp,hold]
  generalize ev st.fr c=v
  cases v<;>try rfl
  next v=>cases v<;>first|exact ZJa.symm|rfl
theorem ZL8 {Q:Exit->ASt->Prop}{q:Box Q}{st:ASt}{id:Nat}{c:Code}:awp P B nb N (.block id c) st (hold Q q)=(awp P B nb N c st (hold (ZG0 id Q) .mk)):=by simp only[hold];rw[awp];congr
theorem ZNY {Q:Exit->ASt->Prop}{q:Box Q}{st:ASt}{c:Code}:awp P B nb N (.loop c) st (hold Q q)=(ALoop P B nb N (hold c .mk) st (hold Q .mk)):=rfl
theorem ZNZ {Q:Exit->ASt->Prop}{q:Box Q}{st:ASt}{i:Nat}:awp P B nb N (.exit i) st (hold Q q)=(Q (.exit i) st):=rfl
theorem ZOY {Q:Exit->ASt->Prop}{q:Box Q}{st:ASt}:awp P B nb N .ret st (hold Q q)=(Q .ret st):=rfl
theorem ZJu {c:Code}{bc:Box c}{Q:Exit->ASt->Prop}{bQ:Box Q}{st:ASt}:ZEn P B nb N (hold c bc) (hold Q bQ) .normal st=Again P B nb N (hold c .mk) (hold Q .mk) st:=rfl
theorem ZOJ {c:Code}{bc:Box c}{Q:Exit->ASt->Prop}{bQ:Box Q}{st:ASt}:ZEn P B nb N (hold c bc) (hold Q bQ) .ret st=Leave B nb N (hold Q .mk) .ret st:=rfl
theorem ZMu {c:Code}{bc:Box c}{Q:Exit->ASt->Prop}{bQ:Box Q}{i:Nat}{st:ASt}:ZEn P B nb N (hold c bc) (hold Q bQ) (.exit i) st=Leave B nb N (hold Q .mk) (.exit i) st:=rfl
theorem ZJs {Q:Exit->ASt->Prop}{st:ASt}{b:Code}:ZN7 P B nb N b Q .normal st=(awp P B nb N b st (hold Q .mk)):=rfl
theorem ZOF {Q:Exit->ASt->Prop}{st:ASt}{b:Code}:ZN7 P B nb N b Q .ret st=(Q .ret st):=rfl
theorem ZMq {Q:Exit->ASt->Prop}{st:ASt}{b:Code}{i:Nat}:ZN7 P B nb N b Q (.exit i) st=(Q (.exit i) st):=rfl
theorem ZKj {Q:Exit->ASt->Prop}{st:ASt}{i:Nat}:ZG0 i Q .normal st=(Q .normal st):=rfl
theorem ZOn {Q:Exit->ASt->Prop}{st:ASt}{i:Nat}:ZG0 i Q .ret st=(Q .ret st):=rfl
theorem ZN1 {Q:Exit->ASt->Prop}{st:ASt}{i j:Nat}:ZG0 i Q (.exit j) st=(if j=i then Q .normal st else Q (.exit j) st):=rfl
theorem ZOM {fn:Func}{K:AV->ZF->Prop}{st:ASt}:ZAh P fn K .ret st=(ZBs P st.σ st.fr fn.results.toList (hold (fun xs=>ZKT st.σ (pack xs) (hold K .mk)) .mk)):=rfl
theorem ZJ2 {fn:Func}{K:AV->ZF->Prop}{st:ASt}:ZAh P fn K .normal st=(ZBs P st.σ st.fr fn.results.toList (hold (fun xs=>ZKT st.σ (pack xs) (hold K .mk)) .mk)):=rfl
theorem ZJJ {K:ASt->Prop}{k:Box K}{st:ASt}{ops:Array Oper}:ZGU P B N ops [] st (hold K k)=(K st):=rfl
theorem ZHr {K:ASt->Prop}{k:Box K}{st:ASt}{ops:Array Oper}{bo:Box ops}{o:Oper}{rest:List Oper}:ZGU P B N (hold ops bo) (o::rest) st (hold K k)=(ZAj (hold ops .mk) st.fr o.guard (hold (aop P B N o st (hold (fun st'=>ZGU P B N (hold ops .mk) rest st' (hold K .mk)) .mk)) .mk) (hold (ZAW N o.dst (.lit undef) st.fr st.σ (hold (fun st'=>ZGU P B N (hold ops .mk) rest st' (hold K .mk)) .mk)) .mk)):=rfl
theorem ZF9 {ops:Array Oper}{bo:Box ops}{fr:Frm}{y n:Prop}{b:Box y}{b':Box n}:ZAj (hold ops bo) fr none (hold y b) (hold n b')=(y):=rfl
def ZIM (w:Bool)(v:AV)(y n:Prop):Prop:=match v with
  | .lit (.bool b)=>abr (b=w) (hold y .mk) (hold n .mk)
  | .lit _=>n
  |_=>False
theorem ZHF {w b:Bool}{y n:Prop}{k:Box y}{k':Box n}:ZIM w (.lit (.bool b)) (hold y k) (hold n k')=abr (b=w) (hold y .mk) (hold n .mk):=rfl
theorem ZFc {w:Bool}{y n:Prop}{k:Box y}{k':Box n}:ZIM w (.lit undef) (hold y k) (hold n k')=n:=rfl
theorem ZF8 {ops : Array Oper} {bo : Box ops}{fr : Frm} {j : Nat} {w : Bool} {y n : Prop} {b : Box y} {b' : Box n} : ZAj (hold ops bo) fr (some (j, w)) (hold y b) (hold n b') = (match (ops[j]?).bind (·.dst) with
      |none=>False
      |some d=>ZIM w (lk fr d) (hold y .mk) (hold n .mk)):=by
  simp only[ZAj,hold]
  generalize(ops[j]?).bind (fun x=>x.dst)=od
  cases od with
  |none=>rfl
  |some d=>
    simp only[]
    generalize lk fr d=v
    cases v<;>try rfl
    next v=>cases v<;>first|(simp only[yb,ZIM,Option.some.injEq];exact ZJa.symm)|(simp[yb,ZIM,hold];done)|rfl
theorem ZNJ {x:Operand}{d:Option Nat}{t:TypeId}{p:String}{es:Array Edge}{g:Option (Nat×Bool)}{st:ASt}{K:ASt->Prop}{k:Box K}:aop P B N ⟨d,.move x,t,p,es,g⟩ st (hold K k)=(aef P B (.move x) (ev st.fr) st.σ (hold (fun r σ'=>ZAW N d r st.fr σ' (hold K .mk)) .mk)):=rfl
theorem ZMy {x:Operand}{fr:Frm}{σ:ZF}{K:AV->Prop}{k:Box K}:ZCd P B (.move x) fr σ (hold K k)=(aef P B (.move x) (ev fr) σ (hold (fun r σ'=>chk (σ'=σ) (hold (K r) .mk)) .mk)):=rfl
theorem ZJ9 {x:Operand}{d:Option Nat}{t:TypeId}{p:String}{es:Array Edge}{g:Option (Nat×Bool)}{st:ASt}{K:ASt->Prop}{k:Box K}:aop P B N ⟨d,.assign x,t,p,es,g⟩ st (hold K k)=(aef P B (.assign x) (ev st.fr) st.σ (hold (fun r σ'=>ZAW N d r st.fr σ' (hold K .mk)) .mk)):=rfl
theorem ZJw {x:Operand}{fr:Frm}{σ:ZF}{K:AV->Prop}{k:Box K}:ZCd P B (.assign x) fr σ (hold K k)=(aef P B (.assign x) (ev fr) σ (hold (fun r σ'=>chk (σ'=σ) (hold (K r) .mk)) .mk)):=rfl
theorem ZNI {c a b:Operand}{d:Option Nat}{t:TypeId}{p:String}{es:Array Edge}{g:Option (Nat×Bool)}{st:ASt}{K:ASt->Prop}{k:Box K}:aop P B N ⟨d,.pick c a b,t,p,es,g⟩ st (hold K k)=(aef P B (.pick c a b) (ev st.fr) st.σ (hold (fun r σ'=>ZAW N d r st.fr σ' (hold K .mk)) .mk)):=rfl
theorem ZMx {c a b:Operand}{fr:Frm}{σ:ZF}{K:AV->Prop}{k:Box K}:ZCd P B (.pick c a b) fr σ (hold K k)=(aef P B (.pick c a b) (ev fr) σ (hold (fun r σ'=>chk (σ'=σ) (hold (K r) .mk)) .mk)):=rfl
theorem ZLy {e:TypeId}{d:Option Nat}{t:TypeId}{p:String}{es:Array Edge}{g:Option (Nat×Bool)}{st:ASt}{K:ASt->Prop}{k:Box K}:aop P B N ⟨d,.alloc e,t,p,es,g⟩ st (hold K k)=(aef P B (.alloc e) (ev st.fr) st.σ (hold (fun r σ'=>ZAW N d r st.fr σ' (hold K .mk)) .mk)):=rfl
theorem ZLe {e:TypeId}{fr:Frm}{σ:ZF}{K:AV->Prop}{k:Box K}:ZCd P B (.alloc e) fr σ (hold K k)=(aef P B (.alloc e) (ev fr) σ (hold (fun r σ'=>chk (σ'=σ) (hold (K r) .mk)) .mk)):=rfl
theorem ZOO {e:TypeId}{x:Operand}{d:Option Nat}{t:TypeId}{p:String}{es:Array Edge}{g:Option (Nat×Bool)}{st:ASt}{K:ASt->Prop}{k:Box K}:aop P B N ⟨d,.box e x,t,p,es,g⟩ st (hold K k)=(aef P B (.box e x) (ev st.fr) st.σ (hold (fun r σ'=>ZAW N d r st.fr σ' (hold K .mk)) .mk)):=rfl
theorem ZOK {e:TypeId}{x:Operand}{fr:Frm}{σ:ZF}{K:AV->Prop}{k:Box K}:ZCd P B (.box e x) fr σ (hold K k)=(aef P B (.box e x) (ev fr) σ (hold (fun r σ'=>chk (σ'=σ) (hold (K r) .mk)) .mk)):=rfl
theorem ZLw {ty:TypeId}{parts:Array (Nat×Operand)}{d:Option Nat}{t:TypeId}{p:String}{es:Array Edge}{g:Option (Nat×Bool)}{st:ASt}{K:ASt->Prop}{k:Box K}:aop P B N ⟨d,.build ty parts,t,p,es,g⟩ st (hold K k)=(aef P B (.build ty parts) (ev st.fr) st.σ (hold (fun r σ'=>ZAW N d r st.fr σ' (hold K .mk)) .mk)):=rfl
theorem ZLc {ty:TypeId}{parts:Array (Nat×Operand)}{fr:Frm}{σ:ZF}{K:AV->Prop}{k:Box K}:ZCd P B (.build ty parts) fr σ (hold K k)=(aef P B (.build ty parts) (ev fr) σ (hold (fun r σ'=>chk (σ'=σ) (hold (K r) .mk)) .mk)):=rfl
theorem ZEw {ty:TypeId}{len:Nat}{parts:Array (Nat×Operand)}{d:Option Nat}{t:TypeId}{p:String}{es:Array Edge}{g:Option (Nat×Bool)}{st:ASt}{K:ASt->Prop}{k:Box K}:aop P B N ⟨d,.buildSlice ty len parts,t,p,es,g⟩ st (hold K k)=(aef P B (.buildSlice ty len parts) (ev st.fr) st.σ (hold (fun r σ'=>ZAW N d r st.fr σ' (hold K .mk)) .mk)):=rfl
theorem ZEs {ty:TypeId}{len:Nat}{parts:Array (Nat×Operand)}{fr:Frm}{σ:ZF}{K:AV->Prop}{k:Box K}:ZCd P B (.buildSlice ty len parts) fr σ (hold K k)=(aef P B (.buildSlice ty len parts) (ev fr) σ (hold (fun r σ'=>chk (σ'=σ) (hold (K r) .mk)) .mk)):=rfl
theorem ZNK {ty:TypeId}{x:Operand}{d:Option Nat}{t:TypeId}{p:String}{es:Array Edge}{g:Option (Nat×Bool)}{st:ASt}{K:ASt->Prop}{k:Box K}:aop P B N ⟨d,.load ty x,t,p,es,g⟩ st (hold K k)=(aef P B (.load ty x) (ev st.fr) st.σ (hold (fun r σ'=>ZAW N d r st.fr σ' (hold K .mk)) .mk)):=rfl
theorem ZMz {ty:TypeId}{x:Operand}{fr:Frm}{σ:ZF}{K:AV->Prop}{k:Box K}:ZCd P B (.load ty x) fr σ (hold K k)=(aef P B (.load ty x) (ev fr) σ (hold (fun r σ'=>chk (σ'=σ) (hold (K r) .mk)) .mk)):=rfl
theorem ZLt {ty:TypeId}{x v:Operand}{d:Option Nat}{t:TypeId}{p:String}{es:Array Edge}{g:Option (Nat×Bool)}{st:ASt}{K:ASt->Prop}{k:Box K}:aop P B N ⟨d,.store ty x v,t,p,es,g⟩ st (hold K k)=(aef P B (.store ty x v) (ev st.fr) st.σ (hold (fun r σ'=>ZAW N d r st.fr σ' (hold K .mk)) .mk)):=rfl
theorem ZLZ {ty:TypeId}{x v:Operand}{fr:Frm}{σ:ZF}{K:AV->Prop}{k:Box K}:ZCd P B (.store ty x v) fr σ (hold K k)=(aef P B (.store ty x v) (ev fr) σ (hold (fun r σ'=>chk (σ'=σ) (hold (K r) .mk)) .mk)):=rfl
theorem ZHb {x:Operand}{d:Option Nat}{t:TypeId}{p:String}{es:Array Edge}{g:Option (Nat×Bool)}{st:ASt}{K:ASt->Prop}{k:Box K}:aop P B N ⟨d,.nilCheck x,t,p,es,g⟩ st (hold K k)=(aef P B (.nilCheck x) (ev st.fr) st.σ (hold (fun r σ'=>ZAW N d r st.fr σ' (hold K .mk)) .mk)):=rfl
theorem ZHN {x:Operand}{fr:Frm}{σ:ZF}{K:AV->Prop}{k:Box K}:ZCd P B (.nilCheck x) fr σ (hold K k)=(aef P B (.nilCheck x) (ev fr) σ (hold (fun r σ'=>chk (σ'=σ) (hold (K r) .mk)) .mk)):=rfl
theorem ZLx {op:BinOp}{ty:TypeId}{x y:Operand}{ty2:TypeId}{d:Option Nat}{t:TypeId}{p:String}{es:Array Edge}{g:Option (Nat×Bool)}{st:ASt}{K:ASt->Prop}{k:Box K}:aop P B N ⟨d,.binOp op ty x y ty2,t,p,es,g⟩ st (hold K k)=(aef P B (.binOp op ty x y ty2) (ev st.fr) st.σ (hold (fun r σ'=>ZAW N d r st.fr σ' (hold K .mk)) .mk)):=rfl
theorem ZLd {op:BinOp}{ty:TypeId}{x y:Operand}{ty2:TypeId}{fr:Frm}{σ:ZF}{K:AV->Prop}{k:Box K}:ZCd P B (.binOp op ty x y ty2) fr σ (hold K k)=(aef P B (.binOp op ty x y ty2) (ev fr) σ (hold (fun r σ'=>chk (σ'=σ) (hold (K r) .mk)) .mk)):=rfl
theorem ZNH {op:UnOp}{ty:TypeId}{x:Operand}{d:Option Nat}{t:TypeId}{p:String}{es:Array Edge}{g:Option (Nat×Bool)}{st:ASt}{K:ASt->Prop}{k:Box K}:aop P B N ⟨d,.unOp op ty x,t,p,es,g⟩ st (hold K k)=(aef P B (.unOp op ty x) (ev st.fr) st.σ (hold (fun r σ'=>ZAW N d r st.fr σ' (hold K .mk)) .mk)):=rfl
theorem ZMw {op:UnOp}{ty:TypeId}{x:Operand}{fr:Frm}{σ:ZF}{K:AV->Prop}{k:Box K}:ZCd P B (.unOp op ty x) fr σ (hold K k)=(aef P B (.unOp op ty x) (ev fr) σ (hold (fun r σ'=>chk (σ'=σ) (hold (K r) .mk)) .mk)):=rfl
theorem ZIz {ty ty2:TypeId}{x:Operand}{d:Option Nat}{t:TypeId}{p:String}{es:Array Edge}{g:Option (Nat×Bool)}{st:ASt}{K:ASt->Prop}{k:Box K}:aop P B N ⟨d,.convert ty ty2 x,t,p,es,g⟩ st (hold K k)=(aef P B (.convert ty ty2 x) (ev st.fr) st.σ (hold (fun r σ'=>ZAW N d r st.fr σ' (hold K .mk)) .mk)):=rfl
theorem ZIZ {ty ty2:TypeId}{x:Operand}{fr:Frm}{σ:ZF}{K:AV->Prop}{k:Box K}:ZCd P B (.convert ty ty2 x) fr σ (hold K k)=(aef P B (.convert ty ty2 x) (ev fr) σ (hold (fun r σ'=>chk (σ'=σ) (hold (K r) .mk)) .mk)):=rfl
theorem ZHc {fn:Fn}{first captured:Array Operand}{d:Option Nat}{t:TypeId}{p:String}{es:Array Edge}{g:Option (Nat×Bool)}{st:ASt}{K:ASt->Prop}{k:Box K}:aop P B N ⟨d,.makeFunc fn first captured,t,p,es,g⟩ st (hold K k)=(aef P B (.makeFunc fn first captured) (ev st.fr) st.σ (hold (fun r σ'=>ZAW N d r st.fr σ' (hold K .mk)) .mk)):=rfl
theorem ZHO {fn:Fn}{first captured:Array Operand}{fr:Frm}{σ:ZF}{K:AV->Prop}{k:Box K}:ZCd P B (.makeFunc fn first captured) fr σ (hold K k)=(aef P B (.makeFunc fn first captured) (ev fr) σ (hold (fun r σ'=>chk (σ'=σ) (hold (K r) .mk)) .mk)):=rfl
theorem ZFy {ty:TypeId}{len cap:Operand}{d:Option Nat}{t:TypeId}{p:String}{es:Array Edge}{g:Option (Nat×Bool)}{st:ASt}{K:ASt->Prop}{k:Box K}:aop P B N ⟨d,.makeSlice ty len cap,t,p,es,g⟩ st (hold K k)=(aef P B (.makeSlice ty len cap) (ev st.fr) st.σ (hold (fun r σ'=>ZAW N d r st.fr σ' (hold K .mk)) .mk)):=rfl
theorem ZFl {ty:TypeId}{len cap:Operand}{fr:Frm}{σ:ZF}{K:AV->Prop}{k:Box K}:ZCd P B (.makeSlice ty len cap) fr σ (hold K k)=(aef P B (.makeSlice ty len cap) (ev fr) σ (hold (fun r σ'=>chk (σ'=σ) (hold (K r) .mk)) .mk)):=rfl
theorem ZLu {ty:TypeId}{x:Operand}{low high mx:Option Operand}{d:Option Nat}{t:TypeId}{p:String}{es:Array Edge}{g:Option (Nat×Bool)}{st:ASt}{K:ASt->Prop}{k:Box K}:aop P B N ⟨d,.slice ty x low high mx,t,p,es,g⟩ st (hold K k)=(aef P B (.slice ty x low high mx) (ev st.fr) st.σ (hold (fun r σ'=>ZAW N d r st.fr σ' (hold K .mk)) .mk)):=rfl
theorem ZLa {ty:TypeId}{x:Operand}{low high mx:Option Operand}{fr:Frm}{σ:ZF}{K:AV->Prop}{k:Box K}:ZCd P B (.slice ty x low high mx) fr σ (hold K k)=(aef P B (.slice ty x low high mx) (ev fr) σ (hold (fun r σ'=>chk (σ'=σ) (hold (K r) .mk)) .mk)):=rfl
theorem ZF0 {ty:TypeId}{x:Operand}{f:Nat}{d:Option Nat}{t:TypeId}{p:String}{es:Array Edge}{g:Option (Nat×Bool)}{st:ASt}{K:ASt->Prop}{k:Box K}:aop P B N ⟨d,.fieldAddr ty x f,t,p,es,g⟩ st (hold K k)=(aef P B (.fieldAddr ty x f) (ev st.fr) st.σ (hold (fun r σ'=>ZAW N d r st.fr σ' (hold K .mk)) .mk)):=rfl
theorem ZFn {ty:TypeId}{x:Operand}{f:Nat}{fr:Frm}{σ:ZF}{K:AV->Prop}{k:Box K}:ZCd P B (.fieldAddr ty x f) fr σ (hold K k)=(aef P B (.fieldAddr ty x f) (ev fr) σ (hold (fun r σ'=>chk (σ'=σ) (hold (K r) .mk)) .mk)):=rfl
theorem ZFz {ty:TypeId}{x i:Operand}{d:Option Nat}{t:TypeId}{p:String}{es:Array Edge}{g:Option (Nat×Bool)}{st:ASt}{K:ASt->Prop}{k:Box K}:aop P B N ⟨d,.indexAddr ty x i,t,p,es,g⟩ st (hold K k)=(aef P B (.indexAddr ty x i) (ev st.fr) st.σ (hold (fun r σ'=>ZAW N d r st.fr σ' (hold K .mk)) .mk)):=rfl
theorem ZFm {ty:TypeId}{x i:Operand}{fr:Frm}{σ:ZF}{K:AV->Prop}{k:Box K}:ZCd P B (.indexAddr ty x i) fr σ (hold K k)=(aef P B (.indexAddr ty x i) (ev fr) σ (hold (fun r σ'=>chk (σ'=σ) (hold (K r) .mk)) .mk)):=rfl
theorem ZLv {ty:TypeId}{x i:Operand}{d:Option Nat}{t:TypeId}{p:String}{es:Array Edge}{g:Option (Nat×Bool)}{st:ASt}{K:ASt->Prop}{k:Box K}:aop P B N ⟨d,.index ty x i,t,p,es,g⟩ st (hold K k)=(aef P B (.index ty x i) (ev st.fr) st.σ (hold (fun r σ'=>ZAW N d r st.fr σ' (hold K .mk)) .mk)):=rfl
theorem ZLb {ty:TypeId}{x i:Operand}{fr:Frm}{σ:ZF}{K:AV->Prop}{k:Box K}:ZCd P B (.index ty x i) fr σ (hold K k)=(aef P B (.index ty x i) (ev fr) σ (hold (fun r σ'=>chk (σ'=σ) (hold (K r) .mk)) .mk)):=rfl
theorem ZIy {x:Operand}{i:Nat}{d:Option Nat}{t:TypeId}{p:String}{es:Array Edge}{g:Option (Nat×Bool)}{st:ASt}{K:ASt->Prop}{k:Box K}:aop P B N ⟨d,.extract x i,t,p,es,g⟩ st (hold K k)=(aef P B (.extract x i) (ev st.fr) st.σ (hold (fun r σ'=>ZAW N d r st.fr σ' (hold K .mk)) .mk)):=rfl
theorem ZIY {x:Operand}{i:Nat}{fr:Frm}{σ:ZF}{K:AV->Prop}{k:Box K}:ZCd P B (.extract x i) fr σ (hold K k)=(aef P B (.extract x i) (ev fr) σ (hold (fun r σ'=>chk (σ'=σ) (hold (K r) .mk)) .mk)):=rfl
theorem ZI0 {bi:Builtin}{args:Array Operand}{ts:Array TypeId}{d:Option Nat}{t:TypeId}{p:String}{es:Array Edge}{g:Option (Nat×Bool)}{st:ASt}{K:ASt->Prop}{k:Box K}:aop P B N ⟨d,.call {callee:=.builtin bi,args:=args,argTypes:=ts},t,p,es,g⟩ st (hold K k)=(aef P B (.call {callee:=.builtin bi,args:=args,argTypes:=ts}) (ev st.fr) st.σ (hold (fun r σ'=>ZAW N d r st.fr σ' (hold K .mk)) .mk)):=rfl
theorem ZIa {bi:Builtin}{args:Array Operand}{ts:Array TypeId}{fr:Frm}{σ:ZF}{K:AV->Prop}{k:Box K}:ZCd P B (.call {callee:=.builtin bi,args:=args,argTypes:=ts}) fr σ (hold K k)=(aef P B (.call {callee:=.builtin bi,args:=args,argTypes:=ts}) (ev fr) σ (hold (fun r σ'=>chk (σ'=σ) (hold (K r) .mk)) .mk)):=rfl
theorem ZNL {f:Operand}{args:Array Operand}{ts:Array TypeId}{d:Option Nat}{t:TypeId}{p:String}{es:Array Edge}{g:Option (Nat×Bool)}{st:ASt}{K:ASt->Prop}{k:Box K}:aop P B N ⟨d,.call {callee:=.value f,args:=args,argTypes:=ts},t,p,es,g⟩ st (hold K k)=(ZFQ P B (ev st.fr f) (args.toList.map (ev st.fr)) st.σ (hold (fun r σ'=>ZAW N d r st.fr σ' (hold K .mk)) .mk)):=rfl
theorem ZM0 {f:Operand}{args:Array Operand}{ts:Array TypeId}{fr:Frm}{σ:ZF}{K:AV->Prop}{k:Box K}:ZCd P B (.call {callee:=.value f,args:=args,argTypes:=ts}) fr σ (hold K k)=(PCall P B (ev fr f) (args.toList.map (ev fr)) (hold K .mk)):=rfl
theorem ZL7 {f : AV} {args : List AV} {σ : ZF}{K : AV -> ZF -> Prop} {k : Box K} : ZFQ P B f args σ (hold K k) = (match f with
    | .fn (.func i) first cap=>ACall P B i (first++args++cap) σ (hold K .mk)
    |_=>False):=by
  cases f<;>try rfl
theorem ZL6 {f : AV} {args : List AV}{K : AV -> Prop} {k : Box K} : PCall P B f args (hold K k) = (match f with
    | .fn (.func i) first cap=>ZDW P B i (first++args++cap) (hold K .mk)
    |_=>False):=by
  cases f<;>try rfl
theorem ZHq {r:AV}{fr:Frm}{σ:ZF}{K:ASt->Prop}{k:Box K}:ZAW N none r fr σ (hold K k)=(K ⟨fr,σ⟩):=rfl
theorem ZHp {d:Nat}{r:AV}{fr:Frm}{σ:ZF}{K:ASt->Prop}{k:Box K}(h:d<N):ZAW N (some d) r fr σ (hold K k)=K ⟨(d,r)::fr,σ⟩:=by simp[ZAW,hold,h]
theorem ZL9 {ops:Array Oper}{fr:Frm}{σ:ZF}{K:Frm->Prop}{k:Box K}:aP P B N ops [] fr σ (hold K k)=(K fr):=rfl
theorem ZKM {ops:Array Oper}{bo:Box ops}{o:Oper}{rest:List Oper}{fr:Frm}{σ:ZF}{K:Frm->Prop}{k:Box K}:aP P B N (hold ops bo) (o::rest) fr σ (hold K k)=(ZAj (hold ops .mk) fr o.guard (hold (ZCd P B o.op fr σ (hold (fun r=>ZEi N o.dst (hold (aP P B N (hold ops .mk) rest (ZAM o.dst r fr) σ (hold K .mk)) .mk)) .mk)) .mk) (hold (ZEi N o.dst (hold (aP P B N (hold ops .mk) rest (ZAM o.dst (.lit undef) fr) σ (hold K .mk)) .mk)) .mk)):=by rw[aP];rfl
theorem ZHt {K:Prop}{k:Box K}:ZEi N none (hold K k)=(K):=by simp[ZEi,dOk,hold]
theorem ZHs {d:Nat}{K:Prop}{k:Box K}(h:d<N):ZEi N (some d) (hold K k)=K:=by simp[ZEi,dOk,hold,h]
theorem ZE4 {α:Type}{l:List α}:(List.toArray l).toList=(l):=rfl
theorem ZNq {x:Operand}{ρ:Operand->AV}{σ:ZF}{K:AV->ZF->Prop}{k:Box K}:aef P B (.move x) ρ σ (hold K k)=(K (ρ x) σ):=rfl
theorem ZKd {x:Operand}{ρ:Operand->AV}{σ:ZF}{K:AV->ZF->Prop}{k:Box K}:aef P B (.assign x) ρ σ (hold K k)=(K (ρ x) σ):=rfl
theorem ZNp {c a b : Operand}{ρ : Operand -> AV} {σ : ZF}{K : AV -> ZF -> Prop} {k : Box K} : aef P B (.pick c a b) ρ σ (hold K k) = (match ρ c with
    | .lit (.bool v)=>abr (v=true) (hold (K (ρ a) σ) .mk) (hold (K (ρ b) σ) .mk)
    |_=>False):=by
  simp only[aef,hold]
  generalize ρ c=v
  cases v<;>try rfl
  next v=>cases v<;>first|(rename_i v;cases v<;>simp[abr];done)|rfl
theorem ZMV {t : TypeId}{ρ : Operand -> AV} {σ : ZF}{K : AV -> ZF -> Prop} {k : Box K} : aef P B (.alloc t) ρ σ (hold K k) = (match Zg P t with
    |some i=>chk (i.zero≠[]) (hold (K (.ptr σ.length 0) (σ++[.cells (i.zero.map .lit)])) .mk)
    |none=>False):=rfl
theorem ZOk {t:TypeId}{x:Operand}{ρ:Operand->AV}{σ:ZF}{K:AV->ZF->Prop}{k:Box K}:aef P B (.box t x) ρ σ (hold K k)=(AV.cellsK σ (ρ x) (hold (fun cs=>K (.ptr σ.length 0) (σ++[.cells cs])) .mk)):=rfl
theorem ZMT {t:TypeId}{parts:Array (Nat×Operand)}{ρ:Operand->AV}{σ:ZF}{K:AV->ZF->Prop}{k:Box K}:aef P B (.build t parts) ρ σ (hold K k)=(ZBe P t σ (parts.toList.map fun p=>(p.1,ρ p.2)) (hold K .mk)):=rfl
theorem ZFE {t:TypeId}{len:Nat}{parts:Array (Nat×Operand)}{ρ:Operand->AV}{σ:ZF}{K:AV->ZF->Prop}{k:Box K}:aef P B (.buildSlice t len parts) ρ σ (hold K k)=(ZAA P B t σ len (parts.toList.map fun p=>(p.1,ρ p.2)) (hold K .mk)):=rfl
theorem ZNr {t:TypeId}{x:Operand}{ρ:Operand->AV}{σ:ZF}{K:AV->ZF->Prop}{k:Box K}:aef P B (.load t x) ρ σ (hold K k)=(ZBW P t σ (ρ x) (hold (fun r=>K r σ) .mk)):=rfl
theorem ZMQ {t:TypeId}{a x:Operand}{ρ:Operand->AV}{σ:ZF}{K:AV->ZF->Prop}{k:Box K}:aef P B (.store t a x) ρ σ (hold K k)=(ZDS P t σ (ρ a) (ρ x) (hold (fun σ'=>K (.lit undef) σ') .mk)):=rfl
theorem ZH2 {x:Operand}{ρ:Operand->AV}{σ:ZF}{K:AV->ZF->Prop}{k:Box K}:aef P B (.nilCheck x) ρ σ (hold K k)=(chk (ZBi σ (ρ x)) (hold (K (ρ x) σ) .mk)):=rfl
theorem ZMU {op:BinOp}{t yt:TypeId}{x y:Operand}{ρ:Operand->AV}{σ:ZF}{K:AV->ZF->Prop}{k:Box K}:aef P B (.binOp op t x y yt) ρ σ (hold K k)=(ZMa P op t (ρ x) (ρ y) (hold (fun r=>K r σ) .mk)):=rfl
theorem ZNo {op:UnOp}{t:TypeId}{x:Operand}{ρ:Operand->AV}{σ:ZF}{K:AV->ZF->Prop}{k:Box K}:aef P B (.unOp op t x) ρ σ (hold K k)=(aUn op (ρ x) (hold (fun r=>K r σ) .mk)):=rfl
theorem ZJP {s d:TypeId}{x:Operand}{ρ:Operand->AV}{σ:ZF}{K:AV->ZF->Prop}{k:Box K}:aef P B (.convert s d x) ρ σ (hold K k)=(ZDe P s d σ (ρ x) (hold (fun r=>K r σ) .mk)):=rfl
theorem ZH3 {fn:Fn}{first cap:Array Operand}{ρ:Operand->AV}{σ:ZF}{K:AV->ZF->Prop}{k:Box K}:aef P B (.makeFunc fn first cap) ρ σ (hold K k)=(K (.fn fn (first.toList.map ρ) (cap.toList.map ρ)) σ):=rfl
theorem ZGL {t:TypeId}{l c:Operand}{ρ:Operand->AV}{σ:ZF}{K:AV->ZF->Prop}{k:Box K}:aef P B (.makeSlice t l c) ρ σ (hold K k)=(ZAK P B t σ (ρ l) (ρ c) (hold K .mk)):=rfl
theorem ZMR {t:TypeId}{x:Operand}{lo hi mx:Option Operand}{ρ:Operand->AV}{σ:ZF}{K:AV->ZF->Prop}{k:Box K}:aef P B (.slice t x lo hi mx) ρ σ (hold K k)=(ZBc P t σ (ρ x) (lo.map ρ) (hi.map ρ) (mx.map ρ) (hold K .mk)):=rfl
theorem ZGN {t:TypeId}{x:Operand}{f:Nat}{ρ:Operand->AV}{σ:ZF}{K:AV->ZF->Prop}{k:Box K}:aef P B (.fieldAddr t x f) ρ σ (hold K k)=(ZAD P t σ (ρ x) f (hold (fun r=>K r σ) .mk)):=rfl
theorem ZGM {t:TypeId}{x i:Operand}{ρ:Operand->AV}{σ:ZF}{K:AV->ZF->Prop}{k:Box K}:aef P B (.indexAddr t x i) ρ σ (hold K k)=(Zw P t σ (ρ x) (ρ i) (hold (fun r=>K r σ) .mk)):=rfl
theorem ZMS {t:TypeId}{x i:Operand}{ρ:Operand->AV}{σ:ZF}{K:AV->ZF->Prop}{k:Box K}:aef P B (.index t x i) ρ σ (hold K k)=(ZCo P t (ρ x) (ρ i) (hold (fun r=>K r σ) .mk)):=rfl
theorem ZJO {x : Operand} {i : Nat}{ρ : Operand -> AV} {σ : ZF}{K : AV -> ZF -> Prop} {k : Box K} : aef P B (.extract x i) ρ σ (hold K k) = (match ρ x with
    | .tup vs=>chk (i<vs.length) (hold (K (vs.getD i .junk) σ) .mk)
    |_=>False):=rfl
theorem ZOj {x y:Operand}{t t2:TypeId}{ρ:Operand->AV}{σ:ZF}{K:AV->ZF->Prop}{k:Box K}:aef P B (.call {callee:=.builtin .len,args:=List.toArray [x],argTypes:=List.toArray [t]}) ρ σ (hold K k)=(ZKo P t σ (ρ x) (hold (fun r=>K r σ) .mk)):=rfl
theorem ZKe {x y:Operand}{t t2:TypeId}{ρ:Operand->AV}{σ:ZF}{K:AV->ZF->Prop}{k:Box K}:aef P B (.call {callee:=.builtin .append,args:=List.toArray [x,y],argTypes:=List.toArray [t,t2]}) ρ σ (hold K k)=(ZBr P B t t2 σ (ρ x) (ρ y) (hold K .mk)):=rfl
theorem ZOh {x y : Operand} {t t2 : TypeId}{ρ : Operand -> AV} {σ : ZF}{K : AV -> ZF -> Prop} {k : Box K} : aef P B (.call { callee := .builtin .min, args := List.toArray [x, y], argTypes := List.toArray [t, t2] }) ρ σ (hold K k) = (match ρ x, ρ y with
    | .lit (.int k a),.lit (.int _ b)=>K (.lit (.int k (if b<a then b else a))) σ
    |_,_=>False):=by
  simp only[aef,hold,List.map_cons,List.map_nil]
  unfold ZAp
  generalize ρ x=v;generalize ρ y=u
  cases v<;>try rfl
  next v => cases v <;> try rfl
            cases u<;>try rfl
            next u=>cases u<;>rfl
theorem ZOi {x y : Operand} {t t2 : TypeId}{ρ : Operand -> AV} {σ : ZF}{K : AV -> ZF -> Prop} {k : Box K} : aef P B (.call { callee := .builtin .max, args := List.toArray [x, y], argTypes := List.toArray [t, t2] }) ρ σ (hold K k) = (match ρ x, ρ y with
    | .lit (.int k a),.lit (.int _ b)=>K (.lit (.int k (if b>a then b else a))) σ
    |_,_=>False):=by
  simp only[aef,hold,List.map_cons,List.map_nil]
  unfold ZAp
  generalize ρ x=v;generalize ρ y=u
  cases v<;>try rfl
  next v => cases v <;> try rfl
            cases u<;>try rfl
            next u=>cases u<;>rfl
theorem ZKY {σ:ZF}{x:AV}{K:List AV->Prop}{k:Box K}:AV.cellsK σ x (hold K k)=(match x with
  | .agg cs=>K cs
  | .lit v=>chk (ZDa v) (hold (K [.lit v]) .mk)
  | .arr es=>K [.arr es]
  | .rptr e o=>K [.rptr e o]
  | .fn f a b=>K [.fn f a b]
  | .own l n=>chk (ok1 σ (.own l n)) (hold (K [.own l n]) .mk)
  | .ptr l n=>chk (ok1 σ (.ptr l n)) (hold (K [.ptr l n]) .mk)
  | .eptr l n i o=>chk (ok1 σ (.eptr l n i o)) (hold (K [.eptr l n i o]) .mk)
  | .junk=>False
  | .pre _ _ _=>False
  | .tup _=>False):=by cases x<;>simp[AV.cellsK,ok1,hold,chk]
theorem ZOe {e:List AV}{off n:Nat}{K:List AV->Prop}{k:Box K}:rdE e off n (hold K k)=(if off=0/\n=e.length then K e else chk (off+n<=e.length) (hold (K ((e.drop off).take n)) .mk)):=rfl
theorem ZOd {σ:ZF}{p:AV}{n:Nat}{K:List AV->Prop}{k:Box K}:rdN σ p n (hold K k)=(match p with
  | .rptr e off=>rdE e off n (hold K .mk)
  | .ptr l off=>match σ[l]? with
    |some (.cells cs)=>rdE cs off n (hold K .mk)
    |_=>False
  | .eptr l k i off=>match σ[l]? with
    |some (.elems _ es)=>chk (es.length=k) (hold (chk (i<es.length) (hold (rdE (es.getD i []) off n (hold K .mk)) .mk)) .mk)
    |_=>False
  |_=>False):=rfl
theorem ZOf {σ:ZF}{p:AV}{K:AV->Prop}{k:Box K}:rd1 σ p (hold K k)=(match p with
  | .rptr e off=>chk (off<e.length) (hold (K (e.getD off .junk)) .mk)
  | .ptr l off=>match σ[l]? with
    |some (.cells cs)=>chk (off<cs.length) (hold (K (cs.getD off .junk)) .mk)
    |_=>False
  | .eptr l k i off=>match σ[l]? with
    |some (.elems _ es)=>chk (es.length=k) (hold (chk (i<es.length) (hold (chk (off<(es.getD i []).length) (hold (K ((es.getD i []).getD off .junk)) .mk)) .mk)) .mk)
    |_=>False
  |_=>False):=rfl
theorem ZML {σ:ZF}{t:TypeId}{p:AV}{K:AV->Prop}{k:Box K}:ZBW P t σ p (hold K k)=(match Zg P t with
  |some i=>if i.sh.isAgg then rdN σ p i.size (hold (fun cs=>K (.agg cs)) .mk)else rd1 σ p (hold K .mk)
  |none=>False):=rfl
theorem ZOc {e cs:List AV}{off:Nat}{K:List AV->Prop}{k:Box K}:wrE e off cs (hold K k)=(if off=0/\cs.length=e.length then K cs
  else chk (off+cs.length<=e.length) (hold (K (e.take off++cs++e.drop (off+cs.length))) .mk)):=rfl
theorem ZOb {σ:ZF}{p:AV}{cs:List AV}{K:ZF->Prop}{k:Box K}:wrN σ p cs (hold K k)=(match p with
  | .ptr l off=>match σ[l]? with
    |some (.cells old)=>wrE old off cs (hold (fun new=>K (σ.set l (.cells new))) .mk)
    |_=>False
  | .eptr l k i off=>match σ[l]? with
    |some (.elems sz es)=>chk (es.length=k) (hold (chk (i<es.length) (hold (wrE (es.getD i []) off cs (hold (fun new=>K (σ.set l (.elems sz (es.set i (new.map (nzs σ)))))) .mk)) .mk)) .mk)
    |_=>False
  |_=>False):=rfl
theorem ZKZ {σ:ZF}{t:TypeId}{p v:AV}{K:ZF->Prop}{k:Box K}:ZDS P t σ p v (hold K k)=(match Zg P t with
  |some i=>AV.cellsK σ v (hold (fun cs=>chk (cs.length=i.size) (hold (chk (Zk σ cs) (hold (wrN σ p cs (hold K .mk)) .mk)) .mk)) .mk)
  |none=>False):=rfl
theorem ZFC {σ:ZF}{t:TypeId}{p:AV}{f:Nat}{K:AV->Prop}{k:Box K}:ZAD P t σ p f (hold K k)=(match Zg P t with
  |some ⟨.struct offs,_,_⟩=>match offs[f]? with
    |some (o,s+1)=>chk (ZBi σ p) (hold (K (p.adv o)) .mk)
    |_=>False
  |_=>False):=rfl
theorem ZFA {σ:ZF}{t:TypeId}{x i:AV}{K:AV->Prop}{k:Box K}:Zw P t σ x i (hold K k)=(match i,Zg P t with
  | .lit (.int _ n),some ⟨.slice sz _ _,_,_⟩=>match x with
    | .arr es=>chk (0<=n) (hold (chk (n.toNat<es.length) (hold (chk ((es.getD n.toNat []).length=sz) (hold (K (.rptr (es.getD n.toNat []) 0)) .mk)) .mk)) .mk)
    | .own l k=>match σ[l]? with
      |some (.elems sz' es)=>chk (es.length=k) (hold (chk (sz'=sz) (hold (chk (0<=n) (hold (chk (n.toNat<k) (hold (K (.eptr l k n.toNat 0)) .mk)) .mk)) .mk)) .mk)
      |_=>False
    |_=>False
  | .lit (.int _ n),some ⟨.array len (sz+1),_,_⟩=>chk (0<=n) (hold (chk (n.toNat<len) (hold (chk (ZBi σ x) (hold (K (x.adv (n.toNat*(sz+1)))) .mk)) .mk)) .mk)
  |_,_=>False):=rfl
theorem ZKb {t:TypeId}{x i:AV}{K:AV->Prop}{k:Box K}:ZCo P t x i (hold K k)=(match x,i with
  | .lit (.string s),.lit (.int _ n)=>chk (P.underlying t=some .string) (hold (chk (0<=n) (hold (chk (n.toNat<s.size) (hold (K (.lit (.int .u8 (byteAt s n.toNat)))) .mk)) .mk)) .mk)
  | .agg cs,.lit (.int _ n)=>match P.underlying t with
    |some (.array len e)=>match Zg P e with
      |some j=>chk (j.sh.isAgg=false) (hold (chk (j.size=1) (hold (chk (len=cs.length) (hold (chk (0<=n) (hold (chk (n.toNat<len) (hold (K (cs.getD n.toNat .junk)) .mk)) .mk)) .mk)) .mk)) .mk)
      |none=>False
    |_=>False
  |_,_=>False):=rfl
theorem ZNl {σ:ZF}{t:TypeId}{x:AV}{K:AV->Prop}{k:Box K}:ZKo P t σ x (hold K k)=(match P.underlying t with
  |some (.slice _)=>match x with
    | .arr es=>K (.lit (.int .i64 es.length))
    | .lit (.slice none 0 0)=>K (.lit (.int .i64 0))
    | .own l k=>K (.lit (.int .i64 k))
    |_=>False
  |some .string=>match x with
    | .lit (.string s)=>K (.lit (.int .i64 s.size))
    |_=>False
  |some (.array n _)=>K (.lit (.int .i64 n))
  |_=>False):=rfl
theorem ZKX {σ:ZF}{x:AV}{K:List (List AV)->Prop}{k:Box K}:ZCn σ x (hold K k)=(match x with
  | .arr es=>K es
  | .lit (.slice none 0 0)=>K []
  | .lit (.slice (some _) 0 _)=>K []
  | .own l k=>match σ[l]? with
    |some (.elems _ es)=>chk (es.length=k) (hold (K es) .mk)
    |_=>False
  |_=>False):=rfl
theorem ZJN {σ:ZF}{t t2:TypeId}{s x:AV}{K:AV->ZF->Prop}{k:Box K}:ZBr P B t t2 σ s x (hold K k)=(match Zg P t,P.underlying t2 with
  |some ⟨.slice sz bytes zs,_,_⟩,some (.slice _)=>
    chk (zs.length=sz) (hold (chk (sz≠0) (hold (chk (bytes≠0) (hold (ZCn σ x (hold (fun new=>chk (ZHk sz new) (hold (chk (ZCq σ new) (hold (
      match s with
      | .lit (.slice none 0 0) => chk (new.length <= B) (hold (chk ((2 * new.length + 1024) * bytes <= 281474976710656) (hold (
          K (.own σ.length new.length) (σ++[.elems sz new])) .mk)) .mk)
      | .own l n=>match σ[l]? with
        | some (.elems sz' es) => chk (es.length = n) (hold (chk (sz' = sz) (hold (chk (n + new.length <= B) (hold (chk ((2 * (n + new.length) + 1024) * bytes <= 281474976710656) (hold (
            K (.own l (n+new.length)) (σ.set l (.elems sz (es++new)))) .mk)) .mk)) .mk)) .mk)
        |_=>False
      |_=>False) .mk)) .mk)) .mk)) .mk)) .mk)) .mk)
  |_,_=>False):=rfl
theorem ZNm {op:BinOp}{t:TypeId}{x y:AV}{K:AV->Prop}{k:Box K}:ZMa P op t x y (hold K k)=(match x,y with
  | .lit (.int k a),.lit (.int k' b)=>chk (k=k') (hold (match op with
    | .add=>K (.lit (.int k (k.wrap (a+b))))
    | .sub=>K (.lit (.int k (k.wrap (a-b))))
    | .mul=>K (.lit (.int k (k.wrap (a*b))))
    | .quo=>chk (b≠0) (hold (K (.lit (.int k (k.wrap (a.tdiv b))))) .mk)
    | .rem=>chk (b≠0) (hold (K (.lit (.int k (a.tmod b)))) .mk)
    | .eql=>K (.lit (.bool (a==b)))
    | .neq=>K (.lit (.bool (a !=b)))
    | .lss=>K (.lit (.bool (a<b)))
    | .leq=>K (.lit (.bool (a<=b)))
    | .gtr=>K (.lit (.bool (a>b)))
    | .geq=>K (.lit (.bool (a≥b)))
    | .xor=>K (.lit (.int k (ZMh k a b)))
    |_=>False) .mk)
  | .lit (.string a),.lit (.string b)=>match op with
    | .add=>chk ((a.size+b.size:Nat)<=9223372036854775807) (hold (K (.lit (.string (a++b)))) .mk)
    | .eql=>K (.lit (.bool (a.toList==b.toList)))
    | .neq=>K (.lit (.bool (!(a.toList==b.toList))))
    |_=>False
  | .lit (.bool a),.lit (.bool b)=>chk (P.underlying t=some .bool) (hold (match op with
    | .eql=>K (.lit (.bool (a==b)))
    | .neq=>K (.lit (.bool (!(a==b))))
    |_=>False) .mk)
  | .agg xs,.agg ys=>match ZBC xs,ZBC ys with
    |some p,some q=>chk (ZB4 P t=true) (hold (match op with
      | .eql=>K (.lit (.bool (dec (eq2 p q))))
      | .neq=>K (.lit (.bool (!dec (eq2 p q))))
      |_=>False) .mk)
    |_,_=>match ZA8 xs,ZA8 ys with
      |some p,some q=>chk (ZCh P t=true) (hold (match op with
        | .eql=>K (.lit (.bool (dec (eq3 p q))))
        | .neq=>K (.lit (.bool (!dec (eq3 p q))))
        |_=>False) .mk)
      |_,_=>match ZBz xs,ZBz ys with
        |some p,some q=>chk (ZC6 P t=true) (hold (match op with
          | .eql=>K (.lit (.bool (dec (eq4 p q))))
          | .neq=>K (.lit (.bool (!dec (eq4 p q))))
          |_=>False) .mk)
        |_,_=>False
  | .arr es,.lit (.slice none 0 0)=>chk (ZCx P t=true) (hold (chk (es≠[]) (hold (match op with
    | .eql=>K (.lit (.bool false))
    | .neq=>K (.lit (.bool true))
    |_=>False) .mk)) .mk)
  | .lit (.slice a n c),.lit (.slice none 0 0)=>chk (ZCx P t=true) (hold (match op with
    | .eql=>K (.lit (.bool a.isNone))
    | .neq=>K (.lit (.bool (!a.isNone)))
    |_=>False) .mk)
  |_,_=>False):=rfl
theorem ZOg {op:UnOp}{x:AV}{K:AV->Prop}{k:Box K}:aUn op x (hold K k)=(match op,x with
  | .not,.lit (.bool b)=>K (.lit (.bool (!b)))
  | .neg,.lit (.int k n)=>K (.lit (.int k (k.wrap (0-n))))
  |_,_=>False):=rfl
theorem ZMM {s d:TypeId}{σ:ZF}{x:AV}{K:AV->Prop}{k:Box K}:ZDe P s d σ x (hold K k)=(match P.underlying s,P.underlying d,x with
  |some (.int _),some (.int k),.lit (.int _ n)=>K (.lit (.int k (k.wrap n)))
  |some (.slice e),some .string,.arr es=>chk (ZA6 P (some (.slice e))=true) (hold (match u8s es with
    |some ns=>K (.lit (.string (ZFT ns)))
    |none=>False) .mk)
  |some (.slice e),some .string,.own l n=>chk (ZA6 P (some (.slice e))=true) (hold (match σ[l]? with
    |some (.elems _ es)=>chk (es.length=n) (hold (match u8s es with
      |some ns=>K (.lit (.string (ZFT ns)))
      |none=>False) .mk)
    |_=>False) .mk)
  |_,_,_=>False):=rfl
theorem ZJM {σ:ZF}{K:List AV->ZF->Prop}{k:Box K}:frz σ [] (hold K k)=(K [] σ):=id rfl
theorem ZHx {σ:ZF}{x:AV}{r:List AV}{K:List AV->ZF->Prop}{k:Box K}:frz σ (x::r) (hold K k)=(match x with
  | .own l n=>(match σ[l]? with
    |some (.elems _ es)=>chk (es.length=n) (hold (chk (Zd es) (hold (frz (σ.set l .dead) r (hold (fun r' σ'=>K (.arr es::r') σ') .mk)) .mk)) .mk)
    |_=>False)
  | .lit v=>frz σ r (hold (fun r' σ'=>K (.lit v::r') σ') .mk)
  | .arr v=>frz σ r (hold (fun r' σ'=>K (.arr v::r') σ') .mk)
  |y=>frz σ r (hold (fun r' σ'=>K (y::r') σ') .mk)):=by
  simp only[hold]
  cases x with
  |own l n=>simp only[frz];generalize σ[l]? =ob;rcases ob with _|(_|cs|⟨sz,es⟩)<;>rfl
  |_=>rfl
theorem ZHw {σ:ZF}{K:List (List AV)->ZF->Prop}{k:Box K}:ZLE σ [] (hold K k)=(K [] σ):=id rfl
theorem ZGE {σ:ZF}{x:List AV}{r:List (List AV)}{K:List (List AV)->ZF->Prop}{k:Box K}:ZLE σ (x::r) (hold K k)=(frz σ x (hold (fun e' σ'=>ZLE σ' r (hold (fun r' σ''=>K (e'::r') σ'') .mk)) .mk)):=id rfl
theorem ZNj {σ:ZF}{x:AV}{K:AV->ZF->Prop}{k:Box K}:ZGB σ x (hold K k)=(match x with
  | .agg cs=>frz σ cs (hold (fun cs' σ'=>K (.agg cs') σ') .mk)
  | .own l n=>(match σ[l]? with
    |some (.elems _ es)=>chk (es.length=n) (hold (chk (Zd es) (hold (K (.arr es) (σ.set l .dead)) .mk)) .mk)
    |_=>False)
  | .lit v=>K (.lit v) σ
  | .arr v=>K (.arr v) σ
  |y=>K y σ):=by cases x<;>rfl
theorem ZHz {σ:ZF}{K:List AV->ZF->Prop}{k:Box K}:ZJK σ [] (hold K k)=(K [] σ):=rfl
theorem ZGG {σ:ZF}{x:AV}{r:List AV}{K:List AV->ZF->Prop}{k:Box K}:ZJK σ (x::r) (hold K k)=(ZGB σ x (hold (fun x' σ'=>ZJK σ' r (hold (fun r' σ''=>K (x'::r') σ'') .mk)) .mk)):=rfl
theorem ZNi {σ:ZF}{x:AV}{K:AV->ZF->Prop}{k:Box K}:ZKT σ x (hold K k)=(match x with
  | .tup xs=>ZJK σ xs (hold (fun xs' σ'=>K (.tup xs') σ') .mk)
  | .lit v=>K (.lit v) σ
  | .arr v=>K (.arr v) σ
  |y=>ZGB σ y (hold K .mk)):=by cases x<;>rfl
theorem ZH1 {σ:ZF}{fr:Frm}{K:List AV->Prop}{k:Box K}:ZBs P σ fr [] (hold K k)=(K []):=rfl
theorem ZH0 {σ:ZF}{fr:Frm}{t:Nat}{r:List ResultVar}{K:List AV->Prop}{k:Box K}:ZBs P σ fr (.tmp t::r) (hold K k)=(ZBs P σ fr r (hold (fun xs=>K (lk fr t::xs)) .mk)):=rfl
theorem ZGH {σ:ZF}{fr:Frm}{a:Nat}{t:TypeId}{r:List ResultVar}{K:List AV->Prop}{k:Box K}:ZBs P σ fr (.cell a t::r) (hold K k)=(ZBW P t σ (lk fr a) (hold (fun x=>ZBs P σ fr r (hold (fun xs=>K (x::xs)) .mk)) .mk)):=rfl
theorem ZGI {place:Nat->Option (Nat×Nat)}{σ:ZF}{cs:List AV}{K:List AV->Prop}{k:Box K}:ZBK place σ cs [] (hold K k)=(K cs):=rfl
theorem ZFB {place : Nat -> Option (Nat × Nat)}{σ : ZF}{cs : List AV} {i : Nat} {x : AV} {rest : List (Nat × AV)}{K : List AV -> Prop} {k : Box K} : ZBK place σ cs ((i, x) :: rest) (hold K k) = (match place i with
    |some (off,size)=>AV.cellsK σ x (hold (fun new=>chk (new.length=size) (hold (wrE cs off new (hold (fun cs'=>ZBK place σ cs' rest (hold K .mk)) .mk)) .mk)) .mk)
    |none=>False):=rfl
theorem ZKc {σ:ZF}{t:TypeId}{ps:List (Nat×AV)}{K:AV->ZF->Prop}{k:Box K}:ZBe P t σ ps (hold K k)=(match Zg P t with
  |some ⟨.struct offs,_,z⟩=>chk ((∀p,p∈offs->p.2≠0)) (hold (chk (z≠[]) (hold (ZBK (fun i=>offs[i]?) σ (z.map .lit) ps (hold (fun cs=>bfrz σ cs (hold (fun cs' σ'=>K (.agg cs') σ') .mk)) .mk)) .mk)) .mk)
  |_=>False):=rfl
theorem ZNk {σ:ZF}{cs:List AV}{K:List AV->ZF->Prop}{k:Box K}:bfrz σ cs (hold K k)=(if σ.any isM=true then K cs σ else frz σ cs (hold K .mk)):=rfl
theorem ZJG {n:Nat}{es:List (List AV)}:isM (.elems n es)=decide (n=0):=by cases n<;>rfl
theorem ZJH {cs:List AV}:isM (.cells cs)=false:=rfl
theorem ZKK :isM .dead=false:=rfl
theorem ZKJ {xs:List AV}{vs:List Value}:isM (.pack xs vs)=true:=rfl
theorem ZHn {n:Nat}{es:List (List AV)}:ZNV (.elems n es)=false:=rfl
theorem ZHo {cs:List AV}:ZNV (.cells cs)=false:=rfl
theorem ZJF :ZNV .dead=false:=rfl
theorem ZJE {xs:List AV}{vs:List Value}:ZNV (.pack xs vs)=true:=rfl
theorem ZFD {σ:ZF}{sz j:Nat}{K:List (List AV)->Prop}{k:Box K}:ZBd σ sz j [] (hold K k)=(K []):=rfl
theorem ZEW {σ:ZF}{sz j i:Nat}{x:AV}{rest:List (Nat×AV)}{K:List (List AV)->Prop}{k:Box K}:ZBd σ sz j ((i,x)::rest) (hold K k)=(chk (i=j) (hold (AV.cellsK σ x (hold (fun e=>chk (e.length=sz) (hold (ZBd σ sz (j+1) rest (hold (fun es=>K (e.map (nzs σ)::es)) .mk)) .mk)) .mk)) .mk)):=rfl
theorem ZEX {σ:ZF}{t:TypeId}{len:Nat}{ps:List (Nat×AV)}{K:AV->ZF->Prop}{k:Box K}:ZAA P B t σ len ps (hold K k)=(match Zg P t with
  |some ⟨.slice sz _ z,_,_⟩=>chk (ps.length=len) (hold (chk (len*sz<=16777216) (hold (chk (len<=B) (hold (chk (z.length=sz) (hold (chk (sz≠0) (hold (ZBd σ sz 0 ps (hold (fun es=>ZLE σ es (hold (fun es' σ'=>K (.own σ'.length len) (σ'++[.elems sz es'])) .mk)) .mk)) .mk)) .mk)) .mk)) .mk)) .mk)
  |_=>False):=rfl
theorem ZE9 {σ:ZF}{t:TypeId}{l c:AV}{K:AV->ZF->Prop}{k:Box K}:ZAK P B t σ l c (hold K k)=(match Zg P t,l,c with
  |some ⟨.slice sz bytes z,_,_⟩,.lit (.int _ n),.lit (.int _ n')=>chk (n=n') (hold (chk (0<=n) (hold (chk (n<=9223372036854775807) (hold (chk (bytes*n<=281474976710656) (hold (chk (n.toNat<=B) (hold (chk (z.length=sz) (hold (chk (sz≠0) (hold (K (.own σ.length n.toNat) (σ++[.elems sz (List.replicate n.toNat ((z.map .lit).map (nzs σ)))])) .mk)) .mk)) .mk)) .mk)) .mk)) .mk)) .mk)
  |_,_,_=>False):=rfl
theorem ZKW {x:Option AV}{d:Nat}{K:Nat->Prop}{k:Box K}:ZAf x d (hold K k)=(match x with
  |none=>K d
  |some (.lit (.int _ n))=>chk (0<=n) (hold (K n.toNat) .mk)
  |_=>False):=rfl
theorem ZKa {σ:ZF}{t:TypeId}{x:AV}{lo hi mx:Option AV}{K:AV->ZF->Prop}{k:Box K}:ZBc P t σ x lo hi mx (hold K k)=(match x,mx with
  | .lit (.string s),none=>chk (P.underlying t=some .string) (hold (
    ZAf lo 0 (hold (fun l=>ZAf hi s.size (hold (fun h=>chk (l<=h) (hold (chk (h<=s.size) (hold (K (.lit (.string (s.extract l h))) σ) .mk)) .mk)) .mk)) .mk)) .mk)
  | .arr es,none=>match Zg P t with
    |some ⟨.slice sz _ _,_,_⟩=>chk (ZHk sz es) (hold (
      ZAf lo 0 (hold (fun l=>ZAf hi es.length (hold (fun h=>chk (l<=h) (hold (chk (h<=es.length) (hold (K (.arr ((es.drop l).take (h-l))) σ) .mk)) .mk)) .mk)) .mk)) .mk)
    |_=>False
  | .own l n,none=>match lo,Zg P t with
    |none,some ⟨.slice _ _ _,_,_⟩=>ZAf hi n (hold (fun h=>chk (h<=n) (hold (K (.pre l n h) σ) .mk)) .mk)
    |_,_=>False
  |_,_=>False):=rfl
theorem ZMK {σ:ZF}{x:AV}:ZBi σ x=(match x with
  | .rptr _ _=>True
  | .ptr l _=>match σ[l]? with
    |some (.cells _)=>True
    |_=>False
  | .eptr l k _ _=>match σ[l]? with
    |some (.elems _ es)=>es.length=k/\es≠[]
    |_=>False
  |_=>False):=rfl
end
attribute [simp ↓] ZEf ZDd ZKi ZJu ZOJ ZMu ZED ZHL ZFk ZNX ZKL ZNa ZOX ZNb ZL8 ZNY ZNZ ZOY ZJs ZOF ZMq ZKj ZOn ZN1 ZOM ZJ2 ZJJ ZHr ZF9 ZF8 ZNJ ZMy ZJ9 ZJw ZNI ZMx ZLy ZLe ZOO ZOK ZLw ZLc ZEw ZEs ZNK ZMz ZLt ZLZ ZHb ZHN ZLx ZLd ZNH ZMw ZIz ZIZ ZHc ZHO ZFy ZFl ZLu ZLa ZF0 ZFn ZFz ZFm ZLv ZLb ZIy ZIY ZI0 ZIa ZNL ZM0 ZL7 ZL6 ZHq ZHp ZL9 ZKM ZHt ZHs ZE4 ZNq ZKd ZNp ZMV ZOk ZMT ZFE ZNr ZMQ ZH2 ZMU ZNo ZJP ZH3 ZGL ZMR ZGN ZGM ZMS ZJO ZOj ZKe ZOh ZOi ZKY ZOe ZOd ZOf ZML ZOc ZOb ZKZ ZFC ZFA ZKb ZNl ZKX ZJN ZNm ZOg ZMM ZJM ZHx ZHw ZGE ZNj ZHz ZGG ZNi ZH1 ZH0 ZGH ZGI ZFB ZKc ZNk ZFD ZEW ZEX ZE9 ZKW ZKa ZMK
attribute [simp] ZHF ZFc ZOB u8s ZA6
attribute [simp] ZJG ZJH ZKK ZKJ ZHn ZHo ZJF ZJE nzs
attribute [simp] nz AV.le AV.le.les ZNg ZEA Blk.le pack ZEh Blk.closed ZAE ZNh AV.bnd AV.bnd.bnds ev ZDJ lk AV.adv Sh.isAgg ZAM
theorem ZNx {n:Nat}{v:Value}:AV.closed n (.lit v)↔True:=by simp[AV.closed]
theorem ZNy {n:Nat}{es:List (List AV)}:AV.closed n (.arr es)↔True:=by simp[AV.closed]
theorem ZMX {n:Nat}{e:List AV}{o:Nat}:AV.closed n (.rptr e o)↔True:=by simp[AV.closed]
theorem ZNw {n l k:Nat}:AV.closed n (.own l k)↔l<n:=by simp[AV.closed]
theorem ZNv {n l k:Nat}:AV.closed n (.ptr l k)↔l<n:=by simp[AV.closed]
theorem ZNz {n:Nat}{cs:List AV}:AV.closed n (.agg cs)↔AV.closed.closeds n cs:=by simp[AV.closed]
theorem ZNu {n:Nat}{cs:List AV}:AV.closed n (.tup cs)↔AV.closed.closeds n cs:=by simp[AV.closed]
theorem ZOm {n:Nat}{f:Fn}{xs ys:List AV}:AV.closed n (.fn f xs ys)↔AV.closed.closeds n xs/\AV.closed.closeds n ys:=by simp[AV.closed]
theorem ZMW {n:Nat}:AV.closed.closeds n []↔True:=by simp[AV.closed.closeds]
theorem ZKg {n:Nat}{x:AV}{r:List AV}:AV.closed.closeds n (x::r)↔x.closed n/\AV.closed.closeds n r:=by simp[AV.closed.closeds]
theorem ZM3 {v:Value}:AV.pure (.lit v)↔True:=by simp[AV.pure]
theorem ZM4 {es:List (List AV)}:AV.pure (.arr es)↔True:=by simp[AV.pure]
theorem ZLg {e:List AV}{o:Nat}:AV.pure (.rptr e o)↔True:=by simp[AV.pure]
theorem ZM5 {cs:List AV}:AV.pure (.agg cs)↔AV.pure.pures cs:=by simp[AV.pure]
theorem ZM2 {cs:List AV}:AV.pure (.tup cs)↔AV.pure.pures cs:=by simp[AV.pure]
theorem ZOL {f:Fn}{xs ys:List AV}:AV.pure (.fn f xs ys)↔AV.pure.pures xs/\AV.pure.pures ys:=by simp[AV.pure]
theorem ZLf :AV.pure.pures []↔True:=by simp[AV.pure.pures]
theorem ZJx {x:AV}{r:List AV}:AV.pure.pures (x::r)↔x.pure/\AV.pure.pures r:=by simp[AV.pure.pures]
theorem ZJ7 {b:Bool}:ZDa (.bool b)↔True:=by simp[ZDa]
theorem ZLp {k:IntKind}{b:Int}:ZDa (.int k b)↔True:=by simp[ZDa]
theorem ZHX {b:ByteArray}:ZDa (.string b)↔True:=by simp[ZDa]
theorem ZIv {a:Option Addr}{l c:Nat}:ZDa (.slice a l c)↔True:=by simp[ZDa]
theorem ZFv {a:Option Addr}:ZDa (.pointer a)↔True:=by simp[ZDa]
theorem ZLo {a:Option Nat}:ZDa (.map a)↔True:=by simp[ZDa]
theorem ZFw :ZDa .nilFunc↔True:=by simp[ZDa]
theorem ZNF {σ:ZF}{v:Value}:ok1 σ (.lit v)↔ZDa v:=by simp[ok1]
theorem ZNG {σ:ZF}{es:List (List AV)}:ok1 σ (.arr es)↔True:=by simp[ok1]
theorem ZLr {σ:ZF}{e:List AV}{o:Nat}:ok1 σ (.rptr e o)↔True:=by simp[ok1]
theorem ZON {σ:ZF}{f:Fn}{xs ys:List AV}:ok1 σ (.fn f xs ys)↔True:=by simp[ok1]
theorem ZNE {σ:ZF}{l n:Nat}:ok1 σ (.own l n)=(match σ[l]? with|some (.elems _ es)=>es.length=n|_=>False):=rfl
theorem ZND {σ:ZF}{l n:Nat}:ok1 σ (.ptr l n)=(match σ[l]? with|some (.cells _)=>True|_=>False):=rfl
theorem ZLs {σ:ZF}{l n i o:Nat}:ok1 σ (.eptr l n i o)=(match σ[l]? with|some (.elems _ es)=>es.length=n/\es≠[]|_=>False):=rfl
theorem ZLq {σ:ZF}:Zk σ []↔True:=by simp[Zk]
theorem ZJ8 {σ:ZF}{x:AV}{r:List AV}:Zk σ (x::r)↔ok1 σ x/\Zk σ r:=by simp[Zk]
attribute [simp] ZNx ZNy ZMX ZNw ZNv ZNz ZNu ZOm ZMW ZKg ZM3 ZM4 ZLg ZM5 ZM2 ZOL ZLf ZJx ZJ7 ZLp ZHX ZIv ZFv ZLo ZFw ZNF ZNG ZLr ZON ZNE ZND ZLs ZLq ZJ8
end Go.Vl
