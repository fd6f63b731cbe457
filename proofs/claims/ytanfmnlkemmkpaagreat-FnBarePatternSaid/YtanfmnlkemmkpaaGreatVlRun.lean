/- A part of the proof. -/
import Derived.Test.YtanfmnlkemmkpaaGreatVlStep
set_option linter.all false
namespace Go.Vl
open Go Go.RowKit
section
variable {P : Program} {B nb N : Nat}
theorem ZOa {Q:Exit->ASt->Prop}{q:Box Q}{st:ASt}:awp P B nb N .skip st (hold Q q)=(Q .normal st):=rfl
theorem ZLB {Q:Exit->ASt->Prop}{q:Box Q}{st:ASt}{id:Nat}{l:List Oper}:awp P B nb N (.region id (List.toArray l) false) st (hold Q q)=(ZGr P B N (hold (List.toArray l) .mk) l st (hold (Q .normal) .mk)):=by simp only[awp,Bool.false_eq_true,if_false,hold]
theorem ZOd {Q:Exit->ASt->Prop}{q:Box Q}{st:ASt}{id:Nat}{ops:Array Oper}:awp P B nb N (.region id ops true) st (hold Q q)=(ADraw P B nb N (hold ops .mk) st (hold (Q .normal) .mk)):=by simp only[awp,if_true,hold]
theorem ZPj {Q:Exit->ASt->Prop}{q:Box Q}{st:ASt}{a b:Code}:awp P B nb N (.seq a b) st (hold Q q)=(awp P B nb N a st (hold (ZPG P B nb N b Q) .mk)):=by simp only[hold];rw[awp];congr
theorem ZOe {Q : Exit -> ASt -> Prop} {q : Box Q}{st : ASt}{c : Operand} {a b : Code} : awp P B nb N (.cond c a b) st (hold Q q) = (match ev st.fr c with
    | .lit (.bool v)=>abr (v=true) (hold (awp P B nb N a st (hold Q .mk)) .mk) (hold (awp P B nb N b st (hold Q .mk)) .mk)
    |_=>False):=by
  simp only[awp,hold]
  generalize ev st.fr c=v
  cases v<;>try rfl
  next v=>cases v<;>first|exact ZGt.symm|rfl
theorem ZM7 {Q:Exit->ASt->Prop}{q:Box Q}{st:ASt}{id:Nat}{c:Code}:awp P B nb N (.block id c) st (hold Q q)=(awp P B nb N c st (hold (ZHb id Q) .mk)):=by simp only[hold];rw[awp];congr
theorem ZOb {Q:Exit->ASt->Prop}{q:Box Q}{st:ASt}{c:Code}:awp P B nb N (.loop c) st (hold Q q)=(ALoop P B nb N (hold c .mk) st (hold Q .mk)):=rfl
theorem ZOc {Q:Exit->ASt->Prop}{q:Box Q}{st:ASt}{i:Nat}:awp P B nb N (.exit i) st (hold Q q)=(Q (.exit i) st):=rfl
theorem ZPk {Q:Exit->ASt->Prop}{q:Box Q}{st:ASt}:awp P B nb N .ret st (hold Q q)=(Q .ret st):=rfl
theorem ZKi {c:Code}{bc:Box c}{Q:Exit->ASt->Prop}{bQ:Box Q}{st:ASt}:ZE7 P B nb N (hold c bc) (hold Q bQ) .normal st=Again P B nb N (hold c .mk) (hold Q .mk) st:=rfl
theorem ZPY {c:Code}{bc:Box c}{Q:Exit->ASt->Prop}{bQ:Box Q}{st:ASt}:ZE7 P B nb N (hold c bc) (hold Q bQ) .ret st=Leave B nb N (hold Q .mk) .ret st:=rfl
theorem ZNy {c:Code}{bc:Box c}{Q:Exit->ASt->Prop}{bQ:Box Q}{i:Nat}{st:ASt}:ZE7 P B nb N (hold c bc) (hold Q bQ) (.exit i) st=Leave B nb N (hold Q .mk) (.exit i) st:=rfl
theorem ZKh {Q:Exit->ASt->Prop}{st:ASt}{b:Code}:ZPG P B nb N b Q .normal st=(awp P B nb N b st (hold Q .mk)):=rfl
theorem ZPU {Q:Exit->ASt->Prop}{st:ASt}{b:Code}:ZPG P B nb N b Q .ret st=(Q .ret st):=rfl
theorem ZNv {Q:Exit->ASt->Prop}{st:ASt}{b:Code}{i:Nat}:ZPG P B nb N b Q (.exit i) st=(Q (.exit i) st):=rfl
theorem ZLe {Q:Exit->ASt->Prop}{st:ASt}{i:Nat}:ZHb i Q .normal st=(Q .normal st):=rfl
theorem ZPz {Q:Exit->ASt->Prop}{st:ASt}{i:Nat}:ZHb i Q .ret st=(Q .ret st):=rfl
theorem ZO8 {Q:Exit->ASt->Prop}{st:ASt}{i j:Nat}:ZHb i Q (.exit j) st=(if j=i then Q .normal st else Q (.exit j) st):=rfl
theorem ZPb {fn:Func}{K:AV->ZA->Prop}{st:ASt}:ZAa P fn K .ret st=(ZBZ P st.σ st.fr fn.results.toList (hold (fun xs=>ZJx st.σ (pack xs) (hold K .mk)) .mk)):=rfl
theorem ZKr {fn:Func}{K:AV->ZA->Prop}{st:ASt}:ZAa P fn K .normal st=(ZBZ P st.σ st.fr fn.results.toList (hold (fun xs=>ZJx st.σ (pack xs) (hold K .mk)) .mk)):=rfl
theorem ZJt {K:ASt->Prop}{k:Box K}{st:ASt}{ops:Array Oper}:ZGr P B N ops [] st (hold K k)=(K st):=rfl
theorem ZIN {K:ASt->Prop}{k:Box K}{st:ASt}{ops:Array Oper}{bo:Box ops}{o:Oper}{rest:List Oper}:ZGr P B N (hold ops bo) (o::rest) st (hold K k)=(ZAR (hold ops .mk) st.fr o.guard (hold (aop P B N o st (hold (fun st'=>ZGr P B N (hold ops .mk) rest st' (hold K .mk)) .mk)) .mk) (hold (ZAD N o.dst (.lit undef) st.fr st.σ (hold (fun st'=>ZGr P B N (hold ops .mk) rest st' (hold K .mk)) .mk)) .mk)):=rfl
theorem ZGV {ops:Array Oper}{bo:Box ops}{fr:Frm}{y n:Prop}{b:Box y}{b':Box n}:ZAR (hold ops bo) fr none (hold y b) (hold n b')=(y):=rfl
def ZIw (w:Bool)(v:AV)(y n:Prop):Prop:=match v with
  | .lit (.bool b)=>abr (b=w) (hold y .mk) (hold n .mk)
  | .lit _=>n
  |_=>False
theorem ZHl {w b:Bool}{y n:Prop}{k:Box y}{k':Box n}:ZIw w (.lit (.bool b)) (hold y k) (hold n k')=abr (b=w) (hold y .mk) (hold n .mk):=rfl
theorem ZF2 {w:Bool}{y n:Prop}{k:Box y}{k':Box n}:ZIw w (.lit undef) (hold y k) (hold n k')=n:=rfl
theorem ZGU {ops : Array Oper} {bo : Box ops}{fr : Frm} {j : Nat} {w : Bool} {y n : Prop} {b : Box y} {b' : Box n} : ZAR (hold ops bo) fr (some (j, w)) (hold y b) (hold n b') = (match (ops[j]?).bind (·.dst) with
      |none=>False
      |some d=>ZIw w (lk fr d) (hold y .mk) (hold n .mk)):=by
  simp only[ZAR,hold]
  generalize(ops[j]?).bind (fun x=>x.dst)=od
  cases od with
  |none=>rfl
  |some d=>
    simp only[]
    generalize lk fr d=v
    cases v<;>try rfl
    next v=>cases v<;>first|(simp only[yb,ZIw,Option.some.injEq];exact ZGt.symm)|(simp[yb,ZIw,hold];done)|rfl
theorem ZOO {x:Operand}{d:Option Nat}{t:TypeId}{p:String}{es:Array Edge}{g:Option (Nat×Bool)}{st:ASt}{K:ASt->Prop}{k:Box K}:aop P B N ⟨d,.move x,t,p,es,g⟩ st (hold K k)=(aef P B (.move x) (ev st.fr) st.σ (hold (fun r σ'=>ZAD N d r st.fr σ' (hold K .mk)) .mk)):=rfl
theorem ZN2 {x:Operand}{fr:Frm}{σ:ZA}{K:AV->Prop}{k:Box K}:ZCq P B (.move x) fr σ (hold K k)=(aef P B (.move x) (ev fr) σ (hold (fun r σ'=>chk (σ'=σ) (hold (K r) .mk)) .mk)):=rfl
theorem ZK0 {x:Operand}{d:Option Nat}{t:TypeId}{p:String}{es:Array Edge}{g:Option (Nat×Bool)}{st:ASt}{K:ASt->Prop}{k:Box K}:aop P B N ⟨d,.assign x,t,p,es,g⟩ st (hold K k)=(aef P B (.assign x) (ev st.fr) st.σ (hold (fun r σ'=>ZAD N d r st.fr σ' (hold K .mk)) .mk)):=rfl
theorem ZKk {x:Operand}{fr:Frm}{σ:ZA}{K:AV->Prop}{k:Box K}:ZCq P B (.assign x) fr σ (hold K k)=(aef P B (.assign x) (ev fr) σ (hold (fun r σ'=>chk (σ'=σ) (hold (K r) .mk)) .mk)):=rfl
theorem ZON {c a b:Operand}{d:Option Nat}{t:TypeId}{p:String}{es:Array Edge}{g:Option (Nat×Bool)}{st:ASt}{K:ASt->Prop}{k:Box K}:aop P B N ⟨d,.pick c a b,t,p,es,g⟩ st (hold K k)=(aef P B (.pick c a b) (ev st.fr) st.σ (hold (fun r σ'=>ZAD N d r st.fr σ' (hold K .mk)) .mk)):=rfl
theorem ZN1 {c a b:Operand}{fr:Frm}{σ:ZA}{K:AV->Prop}{k:Box K}:ZCq P B (.pick c a b) fr σ (hold K k)=(aef P B (.pick c a b) (ev fr) σ (hold (fun r σ'=>chk (σ'=σ) (hold (K r) .mk)) .mk)):=rfl
theorem ZMw {e:TypeId}{d:Option Nat}{t:TypeId}{p:String}{es:Array Edge}{g:Option (Nat×Bool)}{st:ASt}{K:ASt->Prop}{k:Box K}:aop P B N ⟨d,.alloc e,t,p,es,g⟩ st (hold K k)=(aef P B (.alloc e) (ev st.fr) st.σ (hold (fun r σ'=>ZAD N d r st.fr σ' (hold K .mk)) .mk)):=rfl
theorem ZMc {e:TypeId}{fr:Frm}{σ:ZA}{K:AV->Prop}{k:Box K}:ZCq P B (.alloc e) fr σ (hold K k)=(aef P B (.alloc e) (ev fr) σ (hold (fun r σ'=>chk (σ'=σ) (hold (K r) .mk)) .mk)):=rfl
theorem ZPd {e:TypeId}{x:Operand}{d:Option Nat}{t:TypeId}{p:String}{es:Array Edge}{g:Option (Nat×Bool)}{st:ASt}{K:ASt->Prop}{k:Box K}:aop P B N ⟨d,.box e x,t,p,es,g⟩ st (hold K k)=(aef P B (.box e x) (ev st.fr) st.σ (hold (fun r σ'=>ZAD N d r st.fr σ' (hold K .mk)) .mk)):=rfl
theorem ZPZ {e:TypeId}{x:Operand}{fr:Frm}{σ:ZA}{K:AV->Prop}{k:Box K}:ZCq P B (.box e x) fr σ (hold K k)=(aef P B (.box e x) (ev fr) σ (hold (fun r σ'=>chk (σ'=σ) (hold (K r) .mk)) .mk)):=rfl
theorem ZMu {ty:TypeId}{parts:Array (Nat×Operand)}{d:Option Nat}{t:TypeId}{p:String}{es:Array Edge}{g:Option (Nat×Bool)}{st:ASt}{K:ASt->Prop}{k:Box K}:aop P B N ⟨d,.build ty parts,t,p,es,g⟩ st (hold K k)=(aef P B (.build ty parts) (ev st.fr) st.σ (hold (fun r σ'=>ZAD N d r st.fr σ' (hold K .mk)) .mk)):=rfl
theorem ZMa {ty:TypeId}{parts:Array (Nat×Operand)}{fr:Frm}{σ:ZA}{K:AV->Prop}{k:Box K}:ZCq P B (.build ty parts) fr σ (hold K k)=(aef P B (.build ty parts) (ev fr) σ (hold (fun r σ'=>chk (σ'=σ) (hold (K r) .mk)) .mk)):=rfl
theorem ZFK {ty:TypeId}{len:Nat}{parts:Array (Nat×Operand)}{d:Option Nat}{t:TypeId}{p:String}{es:Array Edge}{g:Option (Nat×Bool)}{st:ASt}{K:ASt->Prop}{k:Box K}:aop P B N ⟨d,.buildSlice ty len parts,t,p,es,g⟩ st (hold K k)=(aef P B (.buildSlice ty len parts) (ev st.fr) st.σ (hold (fun r σ'=>ZAD N d r st.fr σ' (hold K .mk)) .mk)):=rfl
theorem ZFC {ty:TypeId}{len:Nat}{parts:Array (Nat×Operand)}{fr:Frm}{σ:ZA}{K:AV->Prop}{k:Box K}:ZCq P B (.buildSlice ty len parts) fr σ (hold K k)=(aef P B (.buildSlice ty len parts) (ev fr) σ (hold (fun r σ'=>chk (σ'=σ) (hold (K r) .mk)) .mk)):=rfl
theorem ZOP {ty:TypeId}{x:Operand}{d:Option Nat}{t:TypeId}{p:String}{es:Array Edge}{g:Option (Nat×Bool)}{st:ASt}{K:ASt->Prop}{k:Box K}:aop P B N ⟨d,.load ty x,t,p,es,g⟩ st (hold K k)=(aef P B (.load ty x) (ev st.fr) st.σ (hold (fun r σ'=>ZAD N d r st.fr σ' (hold K .mk)) .mk)):=rfl
theorem ZN3 {ty:TypeId}{x:Operand}{fr:Frm}{σ:ZA}{K:AV->Prop}{k:Box K}:ZCq P B (.load ty x) fr σ (hold K k)=(aef P B (.load ty x) (ev fr) σ (hold (fun r σ'=>chk (σ'=σ) (hold (K r) .mk)) .mk)):=rfl
theorem ZMr {ty:TypeId}{x v:Operand}{d:Option Nat}{t:TypeId}{p:String}{es:Array Edge}{g:Option (Nat×Bool)}{st:ASt}{K:ASt->Prop}{k:Box K}:aop P B N ⟨d,.store ty x v,t,p,es,g⟩ st (hold K k)=(aef P B (.store ty x v) (ev st.fr) st.σ (hold (fun r σ'=>ZAD N d r st.fr σ' (hold K .mk)) .mk)):=rfl
theorem ZMX {ty:TypeId}{x v:Operand}{fr:Frm}{σ:ZA}{K:AV->Prop}{k:Box K}:ZCq P B (.store ty x v) fr σ (hold K k)=(aef P B (.store ty x v) (ev fr) σ (hold (fun r σ'=>chk (σ'=σ) (hold (K r) .mk)) .mk)):=rfl
theorem ZIC {x:Operand}{d:Option Nat}{t:TypeId}{p:String}{es:Array Edge}{g:Option (Nat×Bool)}{st:ASt}{K:ASt->Prop}{k:Box K}:aop P B N ⟨d,.nilCheck x,t,p,es,g⟩ st (hold K k)=(aef P B (.nilCheck x) (ev st.fr) st.σ (hold (fun r σ'=>ZAD N d r st.fr σ' (hold K .mk)) .mk)):=rfl
theorem ZH0 {x:Operand}{fr:Frm}{σ:ZA}{K:AV->Prop}{k:Box K}:ZCq P B (.nilCheck x) fr σ (hold K k)=(aef P B (.nilCheck x) (ev fr) σ (hold (fun r σ'=>chk (σ'=σ) (hold (K r) .mk)) .mk)):=rfl
theorem ZMv {op:BinOp}{ty:TypeId}{x y:Operand}{ty2:TypeId}{d:Option Nat}{t:TypeId}{p:String}{es:Array Edge}{g:Option (Nat×Bool)}{st:ASt}{K:ASt->Prop}{k:Box K}:aop P B N ⟨d,.binOp op ty x y ty2,t,p,es,g⟩ st (hold K k)=(aef P B (.binOp op ty x y ty2) (ev st.fr) st.σ (hold (fun r σ'=>ZAD N d r st.fr σ' (hold K .mk)) .mk)):=rfl
theorem ZMb {op:BinOp}{ty:TypeId}{x y:Operand}{ty2:TypeId}{fr:Frm}{σ:ZA}{K:AV->Prop}{k:Box K}:ZCq P B (.binOp op ty x y ty2) fr σ (hold K k)=(aef P B (.binOp op ty x y ty2) (ev fr) σ (hold (fun r σ'=>chk (σ'=σ) (hold (K r) .mk)) .mk)):=rfl
theorem ZOM {op:UnOp}{ty:TypeId}{x:Operand}{d:Option Nat}{t:TypeId}{p:String}{es:Array Edge}{g:Option (Nat×Bool)}{st:ASt}{K:ASt->Prop}{k:Box K}:aop P B N ⟨d,.unOp op ty x,t,p,es,g⟩ st (hold K k)=(aef P B (.unOp op ty x) (ev st.fr) st.σ (hold (fun r σ'=>ZAD N d r st.fr σ' (hold K .mk)) .mk)):=rfl
theorem ZN0 {op:UnOp}{ty:TypeId}{x:Operand}{fr:Frm}{σ:ZA}{K:AV->Prop}{k:Box K}:ZCq P B (.unOp op ty x) fr σ (hold K k)=(aef P B (.unOp op ty x) (ev fr) σ (hold (fun r σ'=>chk (σ'=σ) (hold (K r) .mk)) .mk)):=rfl
theorem ZJd {ty ty2:TypeId}{x:Operand}{d:Option Nat}{t:TypeId}{p:String}{es:Array Edge}{g:Option (Nat×Bool)}{st:ASt}{K:ASt->Prop}{k:Box K}:aop P B N ⟨d,.convert ty ty2 x,t,p,es,g⟩ st (hold K k)=(aef P B (.convert ty ty2 x) (ev st.fr) st.σ (hold (fun r σ'=>ZAD N d r st.fr σ' (hold K .mk)) .mk)):=rfl
theorem ZJB {ty ty2:TypeId}{x:Operand}{fr:Frm}{σ:ZA}{K:AV->Prop}{k:Box K}:ZCq P B (.convert ty ty2 x) fr σ (hold K k)=(aef P B (.convert ty ty2 x) (ev fr) σ (hold (fun r σ'=>chk (σ'=σ) (hold (K r) .mk)) .mk)):=rfl
theorem ZID {fn:Fn}{first captured:Array Operand}{d:Option Nat}{t:TypeId}{p:String}{es:Array Edge}{g:Option (Nat×Bool)}{st:ASt}{K:ASt->Prop}{k:Box K}:aop P B N ⟨d,.makeFunc fn first captured,t,p,es,g⟩ st (hold K k)=(aef P B (.makeFunc fn first captured) (ev st.fr) st.σ (hold (fun r σ'=>ZAD N d r st.fr σ' (hold K .mk)) .mk)):=rfl
theorem ZH1 {fn:Fn}{first captured:Array Operand}{fr:Frm}{σ:ZA}{K:AV->Prop}{k:Box K}:ZCq P B (.makeFunc fn first captured) fr σ (hold K k)=(aef P B (.makeFunc fn first captured) (ev fr) σ (hold (fun r σ'=>chk (σ'=σ) (hold (K r) .mk)) .mk)):=rfl
theorem ZGL {ty:TypeId}{len cap:Operand}{d:Option Nat}{t:TypeId}{p:String}{es:Array Edge}{g:Option (Nat×Bool)}{st:ASt}{K:ASt->Prop}{k:Box K}:aop P B N ⟨d,.makeSlice ty len cap,t,p,es,g⟩ st (hold K k)=(aef P B (.makeSlice ty len cap) (ev st.fr) st.σ (hold (fun r σ'=>ZAD N d r st.fr σ' (hold K .mk)) .mk)):=rfl
theorem ZGB {ty:TypeId}{len cap:Operand}{fr:Frm}{σ:ZA}{K:AV->Prop}{k:Box K}:ZCq P B (.makeSlice ty len cap) fr σ (hold K k)=(aef P B (.makeSlice ty len cap) (ev fr) σ (hold (fun r σ'=>chk (σ'=σ) (hold (K r) .mk)) .mk)):=rfl
theorem ZMs {ty:TypeId}{x:Operand}{low high mx:Option Operand}{d:Option Nat}{t:TypeId}{p:String}{es:Array Edge}{g:Option (Nat×Bool)}{st:ASt}{K:ASt->Prop}{k:Box K}:aop P B N ⟨d,.slice ty x low high mx,t,p,es,g⟩ st (hold K k)=(aef P B (.slice ty x low high mx) (ev st.fr) st.σ (hold (fun r σ'=>ZAD N d r st.fr σ' (hold K .mk)) .mk)):=rfl
theorem ZMY {ty:TypeId}{x:Operand}{low high mx:Option Operand}{fr:Frm}{σ:ZA}{K:AV->Prop}{k:Box K}:ZCq P B (.slice ty x low high mx) fr σ (hold K k)=(aef P B (.slice ty x low high mx) (ev fr) σ (hold (fun r σ'=>chk (σ'=σ) (hold (K r) .mk)) .mk)):=rfl
theorem ZGN {ty:TypeId}{x:Operand}{f:Nat}{d:Option Nat}{t:TypeId}{p:String}{es:Array Edge}{g:Option (Nat×Bool)}{st:ASt}{K:ASt->Prop}{k:Box K}:aop P B N ⟨d,.fieldAddr ty x f,t,p,es,g⟩ st (hold K k)=(aef P B (.fieldAddr ty x f) (ev st.fr) st.σ (hold (fun r σ'=>ZAD N d r st.fr σ' (hold K .mk)) .mk)):=rfl
theorem ZGD {ty:TypeId}{x:Operand}{f:Nat}{fr:Frm}{σ:ZA}{K:AV->Prop}{k:Box K}:ZCq P B (.fieldAddr ty x f) fr σ (hold K k)=(aef P B (.fieldAddr ty x f) (ev fr) σ (hold (fun r σ'=>chk (σ'=σ) (hold (K r) .mk)) .mk)):=rfl
theorem ZGM {ty:TypeId}{x i:Operand}{d:Option Nat}{t:TypeId}{p:String}{es:Array Edge}{g:Option (Nat×Bool)}{st:ASt}{K:ASt->Prop}{k:Box K}:aop P B N ⟨d,.indexAddr ty x i,t,p,es,g⟩ st (hold K k)=(aef P B (.indexAddr ty x i) (ev st.fr) st.σ (hold (fun r σ'=>ZAD N d r st.fr σ' (hold K .mk)) .mk)):=rfl
theorem ZGC {ty:TypeId}{x i:Operand}{fr:Frm}{σ:ZA}{K:AV->Prop}{k:Box K}:ZCq P B (.indexAddr ty x i) fr σ (hold K k)=(aef P B (.indexAddr ty x i) (ev fr) σ (hold (fun r σ'=>chk (σ'=σ) (hold (K r) .mk)) .mk)):=rfl
theorem ZMt {ty:TypeId}{x i:Operand}{d:Option Nat}{t:TypeId}{p:String}{es:Array Edge}{g:Option (Nat×Bool)}{st:ASt}{K:ASt->Prop}{k:Box K}:aop P B N ⟨d,.index ty x i,t,p,es,g⟩ st (hold K k)=(aef P B (.index ty x i) (ev st.fr) st.σ (hold (fun r σ'=>ZAD N d r st.fr σ' (hold K .mk)) .mk)):=rfl
theorem ZMZ {ty:TypeId}{x i:Operand}{fr:Frm}{σ:ZA}{K:AV->Prop}{k:Box K}:ZCq P B (.index ty x i) fr σ (hold K k)=(aef P B (.index ty x i) (ev fr) σ (hold (fun r σ'=>chk (σ'=σ) (hold (K r) .mk)) .mk)):=rfl
theorem ZJc {x:Operand}{i:Nat}{d:Option Nat}{t:TypeId}{p:String}{es:Array Edge}{g:Option (Nat×Bool)}{st:ASt}{K:ASt->Prop}{k:Box K}:aop P B N ⟨d,.extract x i,t,p,es,g⟩ st (hold K k)=(aef P B (.extract x i) (ev st.fr) st.σ (hold (fun r σ'=>ZAD N d r st.fr σ' (hold K .mk)) .mk)):=rfl
theorem ZJA {x:Operand}{i:Nat}{fr:Frm}{σ:ZA}{K:AV->Prop}{k:Box K}:ZCq P B (.extract x i) fr σ (hold K k)=(aef P B (.extract x i) (ev fr) σ (hold (fun r σ'=>chk (σ'=σ) (hold (K r) .mk)) .mk)):=rfl
theorem ZJe {bi:Builtin}{args:Array Operand}{ts:Array TypeId}{d:Option Nat}{t:TypeId}{p:String}{es:Array Edge}{g:Option (Nat×Bool)}{st:ASt}{K:ASt->Prop}{k:Box K}:aop P B N ⟨d,.call {callee:=.builtin bi,args:=args,argTypes:=ts},t,p,es,g⟩ st (hold K k)=(aef P B (.call {callee:=.builtin bi,args:=args,argTypes:=ts}) (ev st.fr) st.σ (hold (fun r σ'=>ZAD N d r st.fr σ' (hold K .mk)) .mk)):=rfl
theorem ZJC {bi:Builtin}{args:Array Operand}{ts:Array TypeId}{fr:Frm}{σ:ZA}{K:AV->Prop}{k:Box K}:ZCq P B (.call {callee:=.builtin bi,args:=args,argTypes:=ts}) fr σ (hold K k)=(aef P B (.call {callee:=.builtin bi,args:=args,argTypes:=ts}) (ev fr) σ (hold (fun r σ'=>chk (σ'=σ) (hold (K r) .mk)) .mk)):=rfl
theorem ZOQ {f:Operand}{args:Array Operand}{ts:Array TypeId}{d:Option Nat}{t:TypeId}{p:String}{es:Array Edge}{g:Option (Nat×Bool)}{st:ASt}{K:ASt->Prop}{k:Box K}:aop P B N ⟨d,.call {callee:=.value f,args:=args,argTypes:=ts},t,p,es,g⟩ st (hold K k)=(ZFu P B (ev st.fr f) (args.toList.map (ev st.fr)) st.σ (hold (fun r σ'=>ZAD N d r st.fr σ' (hold K .mk)) .mk)):=rfl
theorem ZN4 {f:Operand}{args:Array Operand}{ts:Array TypeId}{fr:Frm}{σ:ZA}{K:AV->Prop}{k:Box K}:ZCq P B (.call {callee:=.value f,args:=args,argTypes:=ts}) fr σ (hold K k)=(PCall P B (ev fr f) (args.toList.map (ev fr)) (hold K .mk)):=rfl
theorem ZM6 {f : AV} {args : List AV} {σ : ZA}{K : AV -> ZA -> Prop} {k : Box K} : ZFu P B f args σ (hold K k) = (match f with
    | .fn (.func i) first cap=>ACall P B i (first++args++cap) σ (hold K .mk)
    |_=>False):=by
  cases f<;>try rfl
theorem ZM5 {f : AV} {args : List AV}{K : AV -> Prop} {k : Box K} : PCall P B f args (hold K k) = (match f with
    | .fn (.func i) first cap=>ZDo P B i (first++args++cap) (hold K .mk)
    |_=>False):=by
  cases f<;>try rfl
theorem ZIM {r:AV}{fr:Frm}{σ:ZA}{K:ASt->Prop}{k:Box K}:ZAD N none r fr σ (hold K k)=(K ⟨fr,σ⟩):=rfl
theorem ZIL {d:Nat}{r:AV}{fr:Frm}{σ:ZA}{K:ASt->Prop}{k:Box K}(h:d<N):ZAD N (some d) r fr σ (hold K k)=K ⟨(d,r)::fr,σ⟩:=by simp[ZAD,hold,h]
theorem ZM8 {ops:Array Oper}{fr:Frm}{σ:ZA}{K:Frm->Prop}{k:Box K}:aP P B N ops [] fr σ (hold K k)=(K fr):=rfl
theorem ZLC {ops:Array Oper}{bo:Box ops}{o:Oper}{rest:List Oper}{fr:Frm}{σ:ZA}{K:Frm->Prop}{k:Box K}:aP P B N (hold ops bo) (o::rest) fr σ (hold K k)=(ZAR (hold ops .mk) fr o.guard (hold (ZCq P B o.op fr σ (hold (fun r=>ZE0 N o.dst (hold (aP P B N (hold ops .mk) rest (ZAJ o.dst r fr) σ (hold K .mk)) .mk)) .mk)) .mk) (hold (ZE0 N o.dst (hold (aP P B N (hold ops .mk) rest (ZAJ o.dst (.lit undef) fr) σ (hold K .mk)) .mk)) .mk)):=by rw[aP];rfl
theorem ZIP {K:Prop}{k:Box K}:ZE0 N none (hold K k)=(K):=by simp[ZE0,dOk,hold]
theorem ZIO {d:Nat}{K:Prop}{k:Box K}(h:d<N):ZE0 N (some d) (hold K k)=K:=by simp[ZE0,dOk,hold,h]
theorem ZFZ {α:Type}{l:List α}:(List.toArray l).toList=(l):=rfl
theorem ZOx {x:Operand}{ρ:Operand->AV}{σ:ZA}{K:AV->ZA->Prop}{k:Box K}:aef P B (.move x) ρ σ (hold K k)=(K (ρ x) σ):=rfl
theorem ZLZ {x:Operand}{ρ:Operand->AV}{σ:ZA}{K:AV->ZA->Prop}{k:Box K}:aef P B (.assign x) ρ σ (hold K k)=(K (ρ x) σ):=rfl
theorem ZOw {c a b : Operand}{ρ : Operand -> AV} {σ : ZA}{K : AV -> ZA -> Prop} {k : Box K} : aef P B (.pick c a b) ρ σ (hold K k) = (match ρ c with
    | .lit (.bool v)=>abr (v=true) (hold (K (ρ a) σ) .mk) (hold (K (ρ b) σ) .mk)
    |_=>False):=by
  simp only[aef,hold]
  generalize ρ c=v
  cases v<;>try rfl
  next v=>cases v<;>first|(rename_i v;cases v<;>simp[abr];done)|rfl
theorem ZNa {t : TypeId}{ρ : Operand -> AV} {σ : ZA}{K : AV -> ZA -> Prop} {k : Box K} : aef P B (.alloc t) ρ σ (hold K k) = (match Zp P t with
    |some i=>chk (i.zero≠[]) (hold (K (.ptr σ.length 0) (σ++[.cells (i.zero.map .lit)])) .mk)
    |none=>False):=rfl
theorem ZPw {t:TypeId}{x:Operand}{ρ:Operand->AV}{σ:ZA}{K:AV->ZA->Prop}{k:Box K}:aef P B (.box t x) ρ σ (hold K k)=(AV.cellsK σ (ρ x) (hold (fun cs=>K (.ptr σ.length 0) (σ++[.cells cs])) .mk)):=rfl
theorem ZNY {t:TypeId}{parts:Array (Nat×Operand)}{ρ:Operand->AV}{σ:ZA}{K:AV->ZA->Prop}{k:Box K}:aef P B (.build t parts) ρ σ (hold K k)=(ZBg P t σ (parts.toList.map fun p=>(p.1,ρ p.2)) (hold K .mk)):=rfl
theorem ZFj {t:TypeId}{len:Nat}{parts:Array (Nat×Operand)}{ρ:Operand->AV}{σ:ZA}{K:AV->ZA->Prop}{k:Box K}:aef P B (.buildSlice t len parts) ρ σ (hold K k)=(Zv P B t σ len (parts.toList.map fun p=>(p.1,ρ p.2)) (hold K .mk)):=rfl
theorem ZOy {t:TypeId}{x:Operand}{ρ:Operand->AV}{σ:ZA}{K:AV->ZA->Prop}{k:Box K}:aef P B (.load t x) ρ σ (hold K k)=(ZCr P t σ (ρ x) (hold (fun r=>K r σ) .mk)):=rfl
theorem ZNV {t:TypeId}{a x:Operand}{ρ:Operand->AV}{σ:ZA}{K:AV->ZA->Prop}{k:Box K}:aef P B (.store t a x) ρ σ (hold K k)=(ZDk P t σ (ρ a) (ρ x) (hold (fun σ'=>K (.lit undef) σ') .mk)):=rfl
theorem ZIb {x:Operand}{ρ:Operand->AV}{σ:ZA}{K:AV->ZA->Prop}{k:Box K}:aef P B (.nilCheck x) ρ σ (hold K k)=(chk (ZBm σ (ρ x)) (hold (K (ρ x) σ) .mk)):=rfl
theorem ZNZ {op:BinOp}{t yt:TypeId}{x y:Operand}{ρ:Operand->AV}{σ:ZA}{K:AV->ZA->Prop}{k:Box K}:aef P B (.binOp op t x y yt) ρ σ (hold K k)=(ZNf P op t (ρ x) (ρ y) (hold (fun r=>K r σ) .mk)):=rfl
theorem ZOv {op:UnOp}{t:TypeId}{x:Operand}{ρ:Operand->AV}{σ:ZA}{K:AV->ZA->Prop}{k:Box K}:aef P B (.unOp op t x) ρ σ (hold K k)=(aUn op (ρ x) (hold (fun r=>K r σ) .mk)):=rfl
theorem ZJ2 {s d:TypeId}{x:Operand}{ρ:Operand->AV}{σ:ZA}{K:AV->ZA->Prop}{k:Box K}:aef P B (.convert s d x) ρ σ (hold K k)=(ZDy P s d σ (ρ x) (hold (fun r=>K r σ) .mk)):=rfl
theorem ZIc {fn:Fn}{first cap:Array Operand}{ρ:Operand->AV}{σ:ZA}{K:AV->ZA->Prop}{k:Box K}:aef P B (.makeFunc fn first cap) ρ σ (hold K k)=(K (.fn fn (first.toList.map ρ) (cap.toList.map ρ)) σ):=rfl
theorem ZGi {t:TypeId}{l c:Operand}{ρ:Operand->AV}{σ:ZA}{K:AV->ZA->Prop}{k:Box K}:aef P B (.makeSlice t l c) ρ σ (hold K k)=(ZAH P B t σ (ρ l) (ρ c) (hold K .mk)):=rfl
theorem ZNW {t:TypeId}{x:Operand}{lo hi mx:Option Operand}{ρ:Operand->AV}{σ:ZA}{K:AV->ZA->Prop}{k:Box K}:aef P B (.slice t x lo hi mx) ρ σ (hold K k)=(ZBe P t σ (ρ x) (lo.map ρ) (hi.map ρ) (mx.map ρ) (hold K .mk)):=rfl
theorem ZGk {t:TypeId}{x:Operand}{f:Nat}{ρ:Operand->AV}{σ:ZA}{K:AV->ZA->Prop}{k:Box K}:aef P B (.fieldAddr t x f) ρ σ (hold K k)=(Zx P t σ (ρ x) f (hold (fun r=>K r σ) .mk)):=rfl
theorem ZGj {t:TypeId}{x i:Operand}{ρ:Operand->AV}{σ:ZA}{K:AV->ZA->Prop}{k:Box K}:aef P B (.indexAddr t x i) ρ σ (hold K k)=(Zg P t σ (ρ x) (ρ i) (hold (fun r=>K r σ) .mk)):=rfl
theorem ZNX {t:TypeId}{x i:Operand}{ρ:Operand->AV}{σ:ZA}{K:AV->ZA->Prop}{k:Box K}:aef P B (.index t x i) ρ σ (hold K k)=(ZCz P t (ρ x) (ρ i) (hold (fun r=>K r σ) .mk)):=rfl
theorem ZJ1 {x : Operand} {i : Nat}{ρ : Operand -> AV} {σ : ZA}{K : AV -> ZA -> Prop} {k : Box K} : aef P B (.extract x i) ρ σ (hold K k) = (match ρ x with
    | .tup vs=>chk (i<vs.length) (hold (K (vs.getD i .junk) σ) .mk)
    |_=>False):=rfl
theorem ZPv {x y:Operand}{t t2:TypeId}{ρ:Operand->AV}{σ:ZA}{K:AV->ZA->Prop}{k:Box K}:aef P B (.call {callee:=.builtin .len,args:=List.toArray [x],argTypes:=List.toArray [t]}) ρ σ (hold K k)=(ZLl P t σ (ρ x) (hold (fun r=>K r σ) .mk)):=rfl
theorem ZLa {x y:Operand}{t t2:TypeId}{ρ:Operand->AV}{σ:ZA}{K:AV->ZA->Prop}{k:Box K}:aef P B (.call {callee:=.builtin .append,args:=List.toArray [x,y],argTypes:=List.toArray [t,t2]}) ρ σ (hold K k)=(ZBv P B t t2 σ (ρ x) (ρ y) (hold K .mk)):=rfl
theorem ZPu {x y : Operand} {t t2 : TypeId}{ρ : Operand -> AV} {σ : ZA}{K : AV -> ZA -> Prop} {k : Box K} : aef P B (.call { callee := .builtin .min, args := List.toArray [x, y], argTypes := List.toArray [t, t2] }) ρ σ (hold K k) = (match ρ x, ρ y with
    | .lit (.int k a),.lit (.int _ b)=>K (.lit (.int k (if b<a then b else a))) σ
    |_,_=>False):=by
  simp only[aef,hold,List.map_cons,List.map_nil]
  unfold ZA3
  generalize ρ x=v;generalize ρ y=u
  cases v<;>try rfl
  next v => cases v <;> try rfl
            cases u<;>try rfl
            next u=>cases u<;>rfl
theorem ZLU {σ:ZA}{x:AV}{K:List AV->Prop}{k:Box K}:AV.cellsK σ x (hold K k)=(match x with
  | .agg cs=>K cs
  | .lit v=>chk (ZCE v) (hold (K [.lit v]) .mk)
  | .arr es=>K [.arr es]
  | .rptr e o=>K [.rptr e o]
  | .fn f a b=>K [.fn f a b]
  | .own l n=>chk (ok1 σ (.own l n)) (hold (K [.own l n]) .mk)
  | .ptr l n=>chk (ok1 σ (.ptr l n)) (hold (K [.ptr l n]) .mk)
  | .eptr l n i o=>chk (ok1 σ (.eptr l n i o)) (hold (K [.eptr l n i o]) .mk)
  | .junk=>False
  | .pre _ _ _=>False
  | .tup _=>False):=by cases x<;>simp[AV.cellsK,ok1,hold,chk]
theorem ZPr {e:List AV}{off n:Nat}{K:List AV->Prop}{k:Box K}:rdE e off n (hold K k)=(if off=0/\n=e.length then K e else chk (off+n<=e.length) (hold (K ((e.drop off).take n)) .mk)):=rfl
theorem ZPq {σ:ZA}{p:AV}{n:Nat}{K:List AV->Prop}{k:Box K}:rdN σ p n (hold K k)=(match p with
  | .rptr e off=>rdE e off n (hold K .mk)
  | .ptr l off=>match σ[l]? with
    |some (.cells cs)=>rdE cs off n (hold K .mk)
    |_=>False
  | .eptr l k i off=>match σ[l]? with
    |some (.elems _ es)=>chk (es.length=k) (hold (chk (i<es.length) (hold (rdE (es.getD i []) off n (hold K .mk)) .mk)) .mk)
    |_=>False
  |_=>False):=rfl
theorem ZPs {σ:ZA}{p:AV}{K:AV->Prop}{k:Box K}:rd1 σ p (hold K k)=(match p with
  | .rptr e off=>chk (off<e.length) (hold (K (e.getD off .junk)) .mk)
  | .ptr l off=>match σ[l]? with
    |some (.cells cs)=>chk (off<cs.length) (hold (K (cs.getD off .junk)) .mk)
    |_=>False
  | .eptr l k i off=>match σ[l]? with
    |some (.elems _ es)=>chk (es.length=k) (hold (chk (i<es.length) (hold (chk (off<(es.getD i []).length) (hold (K ((es.getD i []).getD off .junk)) .mk)) .mk)) .mk)
    |_=>False
  |_=>False):=rfl
theorem ZNQ {σ:ZA}{t:TypeId}{p:AV}{K:AV->Prop}{k:Box K}:ZCr P t σ p (hold K k)=(match Zp P t with
  |some i=>if i.sh.isAgg then rdN σ p i.size (hold (fun cs=>K (.agg cs)) .mk)else rd1 σ p (hold K .mk)
  |none=>False):=rfl
theorem ZPp {e cs:List AV}{off:Nat}{K:List AV->Prop}{k:Box K}:wrE e off cs (hold K k)=(if off=0/\cs.length=e.length then K cs
  else chk (off+cs.length<=e.length) (hold (K (e.take off++cs++e.drop (off+cs.length))) .mk)):=rfl
theorem ZPo {σ:ZA}{p:AV}{cs:List AV}{K:ZA->Prop}{k:Box K}:wrN σ p cs (hold K k)=(match p with
  | .ptr l off=>match σ[l]? with
    |some (.cells old)=>wrE old off cs (hold (fun new=>K (σ.set l (.cells new))) .mk)
    |_=>False
  | .eptr l k i off=>match σ[l]? with
    |some (.elems sz es)=>chk (es.length=k) (hold (chk (i<es.length) (hold (wrE (es.getD i []) off cs (hold (fun new=>K (σ.set l (.elems sz (es.set i (new.map (nzs σ)))))) .mk)) .mk)) .mk)
    |_=>False
  |_=>False):=rfl
theorem ZLV {σ:ZA}{t:TypeId}{p v:AV}{K:ZA->Prop}{k:Box K}:ZDk P t σ p v (hold K k)=(match Zp P t with
  |some i=>AV.cellsK σ v (hold (fun cs=>chk (cs.length=i.size) (hold (chk (Zh σ cs) (hold (wrN σ p cs (hold K .mk)) .mk)) .mk)) .mk)
  |none=>False):=rfl
theorem ZFh {σ:ZA}{t:TypeId}{p:AV}{f:Nat}{K:AV->Prop}{k:Box K}:Zx P t σ p f (hold K k)=(match Zp P t with
  |some ⟨.struct offs,_,_⟩=>match offs[f]? with
    |some (o,s+1)=>chk (ZBm σ p) (hold (K (p.adv o)) .mk)
    |_=>False
  |_=>False):=rfl
theorem ZFf {σ:ZA}{t:TypeId}{x i:AV}{K:AV->Prop}{k:Box K}:Zg P t σ x i (hold K k)=(match i,Zp P t with
  | .lit (.int _ n),some ⟨.slice sz _ _,_,_⟩=>match x with
    | .arr es=>chk (0<=n) (hold (chk (n.toNat<es.length) (hold (chk ((es.getD n.toNat []).length=sz) (hold (K (.rptr (es.getD n.toNat []) 0)) .mk)) .mk)) .mk)
    | .own l k=>match σ[l]? with
      |some (.elems sz' es)=>chk (es.length=k) (hold (chk (sz'=sz) (hold (chk (0<=n) (hold (chk (n.toNat<k) (hold (K (.eptr l k n.toNat 0)) .mk)) .mk)) .mk)) .mk)
      |_=>False
    |_=>False
  | .lit (.int _ n),some ⟨.array len (sz+1),_,_⟩=>chk (0<=n) (hold (chk (n.toNat<len) (hold (chk (ZBm σ x) (hold (K (x.adv (n.toNat*(sz+1)))) .mk)) .mk)) .mk)
  |_,_=>False):=rfl
theorem ZLX {t:TypeId}{x i:AV}{K:AV->Prop}{k:Box K}:ZCz P t x i (hold K k)=(match x,i with
  | .lit (.string s),.lit (.int _ n)=>chk (P.underlying t=some .string) (hold (chk (0<=n) (hold (chk (n.toNat<s.size) (hold (K (.lit (.int .u8 (byteAt s n.toNat)))) .mk)) .mk)) .mk)
  | .agg cs,.lit (.int _ n)=>match P.underlying t with
    |some (.array len e)=>match Zp P e with
      |some j=>chk (j.sh.isAgg=false) (hold (chk (j.size=1) (hold (chk (len=cs.length) (hold (chk (0<=n) (hold (chk (n.toNat<len) (hold (K (cs.getD n.toNat .junk)) .mk)) .mk)) .mk)) .mk)) .mk)
      |none=>False
    |_=>False
  |_,_=>False):=rfl
theorem ZOt {σ:ZA}{t:TypeId}{x:AV}{K:AV->Prop}{k:Box K}:ZLl P t σ x (hold K k)=(match P.underlying t with
  |some (.slice _)=>match x with
    | .arr es=>K (.lit (.int .i64 es.length))
    | .lit (.slice none 0 0)=>K (.lit (.int .i64 0))
    | .own l k=>K (.lit (.int .i64 k))
    |_=>False
  |some .string=>match x with
    | .lit (.string s)=>K (.lit (.int .i64 s.size))
    |_=>False
  |some (.array n _)=>K (.lit (.int .i64 n))
  |_=>False):=rfl
theorem ZLT {σ:ZA}{x:AV}{K:List (List AV)->Prop}{k:Box K}:ZCy σ x (hold K k)=(match x with
  | .arr es=>K es
  | .lit (.slice none 0 0)=>K []
  | .lit (.slice (some _) 0 _)=>K []
  | .own l k=>match σ[l]? with
    |some (.elems _ es)=>chk (es.length=k) (hold (K es) .mk)
    |_=>False
  |_=>False):=rfl
theorem ZJ0 {σ:ZA}{t t2:TypeId}{s x:AV}{K:AV->ZA->Prop}{k:Box K}:ZBv P B t t2 σ s x (hold K k)=(match Zp P t,P.underlying t2 with
  |some ⟨.slice sz bytes zs,_,_⟩,some (.slice _)=>
    chk (zs.length=sz) (hold (chk (sz≠0) (hold (chk (bytes≠0) (hold (ZCy σ x (hold (fun new=>chk (ZMz sz new) (hold (chk (ZIB σ new) (hold (
      match s with
      | .lit (.slice none 0 0) => chk (new.length <= B) (hold (chk ((2 * new.length + 1024) * bytes <= 281474976710656) (hold (
          K (.own σ.length new.length) (σ++[.elems sz new])) .mk)) .mk)
      | .own l n=>match σ[l]? with
        | some (.elems sz' es) => chk (es.length = n) (hold (chk (sz' = sz) (hold (chk (n + new.length <= B) (hold (chk ((2 * (n + new.length) + 1024) * bytes <= 281474976710656) (hold (
            K (.own l (n+new.length)) (σ.set l (.elems sz (es++new)))) .mk)) .mk)) .mk)) .mk)
        |_=>False
      |_=>False) .mk)) .mk)) .mk)) .mk)) .mk)) .mk)
  |_,_=>False):=rfl
theorem ZOu {op:BinOp}{t:TypeId}{x y:AV}{K:AV->Prop}{k:Box K}:ZNf P op t x y (hold K k)=(match x,y with
  | .lit (.int k a),.lit (.int k' b)=>chk (k=k') (hold (match op with
    | .add=>K (.lit (.int k (k.wrap (a+b))))
    | .sub=>K (.lit (.int k (k.wrap (a-b))))
    | .mul=>K (.lit (.int k (k.wrap (a*b))))
    | .quo=>chk (b≠0) (hold (K (.lit (.int k (k.wrap (a.tdiv b))))) .mk)
    | .rem=>chk (b≠0) (hold (K (.lit (.int k (a.tmod b)))) .mk)
    | .eql=>K (.lit (.bool (a==b)))
    | .neq=>K (.lit (.bool (a !=b)))
    | .lss=>K (.lit (.bool (a<b)))
    | .leq=>K (.lit (.bool (a<=b)))
    | .gtr=>K (.lit (.bool (a>b)))
    | .geq=>K (.lit (.bool (a≥b)))
    | .xor=>K (.lit (.int k (ZML k a b)))
    |_=>False) .mk)
  | .lit (.string a),.lit (.string b)=>match op with
    | .add=>chk ((a.size+b.size:Nat)<=9223372036854775807) (hold (K (.lit (.string (a++b)))) .mk)
    | .eql=>K (.lit (.bool (a.toList==b.toList)))
    | .neq=>K (.lit (.bool (!(a.toList==b.toList))))
    |_=>False
  | .lit (.bool a),.lit (.bool b)=>chk (P.underlying t=some .bool) (hold (match op with
    | .eql=>K (.lit (.bool (a==b)))
    | .neq=>K (.lit (.bool (!(a==b))))
    |_=>False) .mk)
  | .agg xs,.agg ys=>match ZA9 xs,ZA9 ys with
    |some p,some q=>chk (ZCC P t=true) (hold (match op with
      | .eql=>K (.lit (.bool (dec (eq2 p q))))
      | .neq=>K (.lit (.bool (!dec (eq2 p q))))
      |_=>False) .mk)
    |_,_=>match ZB0 xs,ZB0 ys with
      |some p,some q=>chk (ZDD P t=true) (hold (match op with
        | .eql=>K (.lit (.bool (dec (eq3 p q))))
        | .neq=>K (.lit (.bool (!dec (eq3 p q))))
        |_=>False) .mk)
      |_,_=>match ZB6 xs,ZB6 ys with
        |some p,some q=>chk (ZD6 P t=true) (hold (match op with
          | .eql=>K (.lit (.bool (dec (eq4 p q))))
          | .neq=>K (.lit (.bool (!dec (eq4 p q))))
          |_=>False) .mk)
        |_,_=>False
  | .arr es,.lit (.slice none 0 0)=>chk (ZFy P t=true) (hold (chk (es≠[]) (hold (match op with
    | .eql=>K (.lit (.bool false))
    | .neq=>K (.lit (.bool true))
    |_=>False) .mk)) .mk)
  | .lit (.slice a n c),.lit (.slice none 0 0)=>chk (ZFy P t=true) (hold (match op with
    | .eql=>K (.lit (.bool a.isNone))
    | .neq=>K (.lit (.bool (!a.isNone)))
    |_=>False) .mk)
  |_,_=>False):=rfl
theorem ZPt {op:UnOp}{x:AV}{K:AV->Prop}{k:Box K}:aUn op x (hold K k)=(match op,x with
  | .not,.lit (.bool b)=>K (.lit (.bool (!b)))
  | .neg,.lit (.int k n)=>K (.lit (.int k (k.wrap (0-n))))
  |_,_=>False):=rfl
theorem ZNR {s d:TypeId}{σ:ZA}{x:AV}{K:AV->Prop}{k:Box K}:ZDy P s d σ x (hold K k)=(match P.underlying s,P.underlying d,x with
  |some (.int _),some (.int k),.lit (.int _ n)=>K (.lit (.int k (k.wrap n)))
  |some (.slice e),some .string,.arr es=>chk (ZA0 P (some (.slice e))=true) (hold (match u8s es with
    |some ns=>K (.lit (.string (ZFw ns)))
    |none=>False) .mk)
  |some (.slice e),some .string,.own l n=>chk (ZA0 P (some (.slice e))=true) (hold (match σ[l]? with
    |some (.elems _ es)=>chk (es.length=n) (hold (match u8s es with
      |some ns=>K (.lit (.string (ZFw ns)))
      |none=>False) .mk)
    |_=>False) .mk)
  |_,_,_=>False):=rfl
theorem ZJz {σ:ZA}{K:List AV->ZA->Prop}{k:Box K}:frz σ [] (hold K k)=(K [] σ):=id rfl
theorem ZIW {σ:ZA}{x:AV}{r:List AV}{K:List AV->ZA->Prop}{k:Box K}:frz σ (x::r) (hold K k)=(match x with
  | .own l n=>(match σ[l]? with
    |some (.elems _ es)=>chk (es.length=n) (hold (chk (Zr es) (hold (frz (σ.set l .dead) r (hold (fun r' σ'=>K (.arr es::r') σ') .mk)) .mk)) .mk)
    |_=>False)
  | .lit v=>frz σ r (hold (fun r' σ'=>K (.lit v::r') σ') .mk)
  | .arr v=>frz σ r (hold (fun r' σ'=>K (.arr v::r') σ') .mk)
  |y=>frz σ r (hold (fun r' σ'=>K (y::r') σ') .mk)):=by
  simp only[hold]
  cases x with
  |own l n=>simp only[frz];generalize σ[l]? =ob;rcases ob with _|(_|cs|⟨sz,es⟩)<;>rfl
  |_=>rfl
theorem ZIV {σ:ZA}{K:List (List AV)->ZA->Prop}{k:Box K}:ZLM σ [] (hold K k)=(K [] σ):=id rfl
theorem ZGc {σ:ZA}{x:List AV}{r:List (List AV)}{K:List (List AV)->ZA->Prop}{k:Box K}:ZLM σ (x::r) (hold K k)=(frz σ x (hold (fun e' σ'=>ZLM σ' r (hold (fun r' σ''=>K (e'::r') σ'') .mk)) .mk)):=id rfl
theorem ZOr {σ:ZA}{x:AV}{K:AV->ZA->Prop}{k:Box K}:ZGX σ x (hold K k)=(match x with
  | .agg cs=>frz σ cs (hold (fun cs' σ'=>K (.agg cs') σ') .mk)
  | .own l n=>(match σ[l]? with
    |some (.elems _ es)=>chk (es.length=n) (hold (chk (Zr es) (hold (K (.arr es) (σ.set l .dead)) .mk)) .mk)
    |_=>False)
  | .lit v=>K (.lit v) σ
  | .arr v=>K (.arr v) σ
  |y=>K y σ):=by cases x<;>rfl
theorem ZIY {σ:ZA}{K:List AV->ZA->Prop}{k:Box K}:ZJw σ [] (hold K k)=(K [] σ):=rfl
theorem ZGe {σ:ZA}{x:AV}{r:List AV}{K:List AV->ZA->Prop}{k:Box K}:ZJw σ (x::r) (hold K k)=(ZGX σ x (hold (fun x' σ'=>ZJw σ' r (hold (fun r' σ''=>K (x'::r') σ'') .mk)) .mk)):=rfl
theorem ZOq {σ:ZA}{x:AV}{K:AV->ZA->Prop}{k:Box K}:ZJx σ x (hold K k)=(match x with
  | .tup xs=>ZJw σ xs (hold (fun xs' σ'=>K (.tup xs') σ') .mk)
  | .lit v=>K (.lit v) σ
  | .arr v=>K (.arr v) σ
  |y=>ZGX σ y (hold K .mk)):=by cases x<;>rfl
theorem ZIa {σ:ZA}{fr:Frm}{K:List AV->Prop}{k:Box K}:ZBZ P σ fr [] (hold K k)=(K []):=rfl
theorem ZIZ {σ:ZA}{fr:Frm}{t:Nat}{r:List ResultVar}{K:List AV->Prop}{k:Box K}:ZBZ P σ fr (.tmp t::r) (hold K k)=(ZBZ P σ fr r (hold (fun xs=>K (lk fr t::xs)) .mk)):=rfl
theorem ZGf {σ:ZA}{fr:Frm}{a:Nat}{t:TypeId}{r:List ResultVar}{K:List AV->Prop}{k:Box K}:ZBZ P σ fr (.cell a t::r) (hold K k)=(ZCr P t σ (lk fr a) (hold (fun x=>ZBZ P σ fr r (hold (fun xs=>K (x::xs)) .mk)) .mk)):=rfl
theorem ZGg {place:Nat->Option (Nat×Nat)}{σ:ZA}{cs:List AV}{K:List AV->Prop}{k:Box K}:ZBI place σ cs [] (hold K k)=(K cs):=rfl
theorem ZFg {place : Nat -> Option (Nat × Nat)}{σ : ZA}{cs : List AV} {i : Nat} {x : AV} {rest : List (Nat × AV)}{K : List AV -> Prop} {k : Box K} : ZBI place σ cs ((i, x) :: rest) (hold K k) = (match place i with
    |some (off,size)=>AV.cellsK σ x (hold (fun new=>chk (new.length=size) (hold (wrE cs off new (hold (fun cs'=>ZBI place σ cs' rest (hold K .mk)) .mk)) .mk)) .mk)
    |none=>False):=rfl
theorem ZLY {σ:ZA}{t:TypeId}{ps:List (Nat×AV)}{K:AV->ZA->Prop}{k:Box K}:ZBg P t σ ps (hold K k)=(match Zp P t with
  |some ⟨.struct offs,_,z⟩=>chk ((∀p,p∈offs->p.2≠0)) (hold (chk (z≠[]) (hold (ZBI (fun i=>offs[i]?) σ (z.map .lit) ps (hold (fun cs=>bfrz σ cs (hold (fun cs' σ'=>K (.agg cs') σ') .mk)) .mk)) .mk)) .mk)
  |_=>False):=rfl
theorem ZOs {σ:ZA}{cs:List AV}{K:List AV->ZA->Prop}{k:Box K}:bfrz σ cs (hold K k)=(if σ.any isM=true then K cs σ else frz σ cs (hold K .mk)):=rfl
theorem ZNP {σ:ZA}{es:List (List AV)}{K:List (List AV)->ZA->Prop}{k:Box K}:bfrzs σ es (hold K k)=(if σ.any isK=true/\σ.any isP=true then K es σ else ZLM σ es (hold K .mk)):=rfl
theorem ZFW {n:Nat}{es:List (List AV)}:isK (.elems n es)=decide (n=0):=by cases n<;>rfl
theorem ZFX {cs:List AV}:isK (.cells cs)=false:=rfl
theorem ZHW :isK .dead=false:=rfl
theorem ZHV {xs:List AV}{vs:List Value}:isK (.pack xs vs)=false:=rfl
theorem ZFU {n:Nat}{es:List (List AV)}:isP (.elems n es)=false:=rfl
theorem ZFV {cs:List AV}:isP (.cells cs)=false:=rfl
theorem ZHU :isP .dead=false:=rfl
theorem ZHT {xs:List AV}{vs:List Value}:isP (.pack xs vs)=true:=rfl
theorem ZJp {n:Nat}{es:List (List AV)}:isM (.elems n es)=decide (n=0):=by cases n<;>rfl
theorem ZJq {cs:List AV}:isM (.cells cs)=false:=rfl
theorem ZLA :isM .dead=false:=rfl
theorem ZK9 {xs:List AV}{vs:List Value}:isM (.pack xs vs)=true:=rfl
theorem ZIJ {n:Nat}{es:List (List AV)}:ZOY (.elems n es)=false:=rfl
theorem ZIK {cs:List AV}:ZOY (.cells cs)=false:=rfl
theorem ZJo :ZOY .dead=false:=rfl
theorem ZJn {xs:List AV}{vs:List Value}:ZOY (.pack xs vs)=true:=rfl
theorem ZFi {σ:ZA}{sz j:Nat}{K:List (List AV)->Prop}{k:Box K}:ZBf σ sz j [] (hold K k)=(K []):=rfl
theorem ZEo {σ:ZA}{sz j i:Nat}{x:AV}{rest:List (Nat×AV)}{K:List (List AV)->Prop}{k:Box K}:ZBf σ sz j ((i,x)::rest) (hold K k)=(chk (i=j) (hold (AV.cellsK σ x (hold (fun e=>chk (e.length=sz) (hold (ZBf σ sz (j+1) rest (hold (fun es=>K (e.map (nzs σ)::es)) .mk)) .mk)) .mk)) .mk)):=rfl
theorem ZEp {σ:ZA}{t:TypeId}{len:Nat}{ps:List (Nat×AV)}{K:AV->ZA->Prop}{k:Box K}:Zv P B t σ len ps (hold K k)=(match Zp P t with
  |some ⟨.slice sz _ z,_,_⟩=>chk (ps.length=len) (hold (chk (len*sz<=16777216) (hold (chk (len<=B) (hold (chk (z.length=sz) (hold (chk (sz≠0) (hold (ZBf σ sz 0 ps (hold (fun es=>bfrzs σ es (hold (fun es' σ'=>K (.own σ'.length len) (σ'++[.elems sz es'])) .mk)) .mk)) .mk)) .mk)) .mk)) .mk)) .mk)
  |_=>False):=rfl
theorem ZFe {σ:ZA}{t:TypeId}{l c:AV}{K:AV->ZA->Prop}{k:Box K}:ZAH P B t σ l c (hold K k)=(match Zp P t,l,c with
  |some ⟨.slice sz bytes z,_,_⟩,.lit (.int _ n),.lit (.int _ n')=>chk (n=n') (hold (chk (0<=n) (hold (chk (n<=9223372036854775807) (hold (chk (bytes*n<=281474976710656) (hold (chk (n.toNat<=B) (hold (chk (z.length=sz) (hold (chk (sz≠0) (hold (K (.own σ.length n.toNat) (σ++[.elems sz (List.replicate n.toNat ((z.map .lit).map (nzs σ)))])) .mk)) .mk)) .mk)) .mk)) .mk)) .mk)) .mk)
  |_,_,_=>False):=rfl
theorem ZLS {x:Option AV}{d:Nat}{K:Nat->Prop}{k:Box K}:ZAX x d (hold K k)=(match x with
  |none=>K d
  |some (.lit (.int _ n))=>chk (0<=n) (hold (K n.toNat) .mk)
  |_=>False):=rfl
theorem ZLW {σ:ZA}{t:TypeId}{x:AV}{lo hi mx:Option AV}{K:AV->ZA->Prop}{k:Box K}:ZBe P t σ x lo hi mx (hold K k)=(match x,mx with
  | .lit (.string s),none=>chk (P.underlying t=some .string) (hold (
    ZAX lo 0 (hold (fun l=>ZAX hi s.size (hold (fun h=>chk (l<=h) (hold (chk (h<=s.size) (hold (K (.lit (.string (s.extract l h))) σ) .mk)) .mk)) .mk)) .mk)) .mk)
  | .arr es,none=>match Zp P t with
    |some ⟨.slice sz _ _,_,_⟩=>chk (ZMz sz es) (hold (
      ZAX lo 0 (hold (fun l=>ZAX hi es.length (hold (fun h=>chk (l<=h) (hold (chk (h<=es.length) (hold (K (.arr ((es.drop l).take (h-l))) σ) .mk)) .mk)) .mk)) .mk)) .mk)
    |_=>False
  | .own l n,none=>match lo,Zp P t with
    |none,some ⟨.slice _ _ _,_,_⟩=>ZAX hi n (hold (fun h=>chk (h<=n) (hold (K (.pre l n h) σ) .mk)) .mk)
    |_,_=>False
  |_,_=>False):=rfl
theorem ZNO {σ:ZA}{x:AV}:ZBm σ x=(match x with
  | .rptr _ _=>True
  | .ptr l _=>match σ[l]? with
    |some (.cells _)=>True
    |_=>False
  | .eptr l k _ _=>match σ[l]? with
    |some (.elems _ es)=>es.length=k/\es≠[]
    |_=>False
  |_=>False):=rfl
end
attribute [simp ↓] ZEv ZDx ZLc ZKi ZPY ZNy ZEY ZHy ZGA ZOa ZLB ZOd ZPj ZOe ZM7 ZOb ZOc ZPk ZKh ZPU ZNv ZLe ZPz ZO8 ZPb ZKr ZJt ZIN ZGV ZGU ZOO ZN2 ZK0 ZKk ZON ZN1 ZMw ZMc ZPd ZPZ ZMu ZMa ZFK ZFC ZOP ZN3 ZMr ZMX ZIC ZH0 ZMv ZMb ZOM ZN0 ZJd ZJB ZID ZH1 ZGL ZGB ZMs ZMY ZGN ZGD ZGM ZGC ZMt ZMZ ZJc ZJA ZJe ZJC ZOQ ZN4 ZM6 ZM5 ZIM ZIL ZM8 ZLC ZIP ZIO ZFZ ZOx ZLZ ZOw ZNa ZPw ZNY ZFj ZOy ZNV ZIb ZNZ ZOv ZJ2 ZIc ZGi ZNW ZGk ZGj ZNX ZJ1 ZPv ZLa ZPu ZLU ZPr ZPq ZPs ZNQ ZPp ZPo ZLV ZFh ZFf ZLX ZOt ZLT ZJ0 ZOu ZPt ZNR ZJz ZIW ZIV ZGc ZOr ZIY ZGe ZOq ZIa ZIZ ZGf ZGg ZFg ZLY ZOs ZNP ZFW ZFX ZHW ZHV ZFU ZFV ZHU ZHT ZFi ZEo ZEp ZFe ZLS ZLW ZNO
attribute [simp] ZHl ZF2 ZPQ u8s ZA0
attribute [simp] ZFW ZFX ZHW ZHV ZFU ZFV ZHU ZHT ZJp ZJq ZLA ZK9 ZIJ ZIK ZJo ZJn nzs
attribute [simp] nz AV.le AV.le.les ZOm ZEx Blk.le pack ZFx Blk.closed Zz ZOn AV.bnd AV.bnd.bnds ev ZBw lk AV.adv Sh.isAgg ZAJ
theorem ZO4 {n:Nat}{v:Value}:AV.closed n (.lit v)↔True:=by simp[AV.closed]
theorem ZO5 {n:Nat}{es:List (List AV)}:AV.closed n (.arr es)↔True:=by simp[AV.closed]
theorem ZNc {n:Nat}{e:List AV}{o:Nat}:AV.closed n (.rptr e o)↔True:=by simp[AV.closed]
theorem ZO3 {n l k:Nat}:AV.closed n (.own l k)↔l<n:=by simp[AV.closed]
theorem ZO2 {n l k:Nat}:AV.closed n (.ptr l k)↔l<n:=by simp[AV.closed]
theorem ZO6 {n:Nat}{cs:List AV}:AV.closed n (.agg cs)↔AV.closed.closeds n cs:=by simp[AV.closed]
theorem ZO1 {n:Nat}{cs:List AV}:AV.closed n (.tup cs)↔AV.closed.closeds n cs:=by simp[AV.closed]
theorem ZPy {n:Nat}{f:Fn}{xs ys:List AV}:AV.closed n (.fn f xs ys)↔AV.closed.closeds n xs/\AV.closed.closeds n ys:=by simp[AV.closed]
theorem ZNb {n:Nat}:AV.closed.closeds n []↔True:=by simp[AV.closed.closeds]
theorem ZLb {n:Nat}{x:AV}{r:List AV}:AV.closed.closeds n (x::r)↔x.closed n/\AV.closed.closeds n r:=by simp[AV.closed.closeds]
theorem ZN6 {v:Value}:AV.pure (.lit v)↔True:=by simp[AV.pure]
theorem ZN7 {es:List (List AV)}:AV.pure (.arr es)↔True:=by simp[AV.pure]
theorem ZMf {e:List AV}{o:Nat}:AV.pure (.rptr e o)↔True:=by simp[AV.pure]
theorem ZN8 {cs:List AV}:AV.pure (.agg cs)↔AV.pure.pures cs:=by simp[AV.pure]
theorem ZN5 {cs:List AV}:AV.pure (.tup cs)↔AV.pure.pures cs:=by simp[AV.pure]
theorem ZPa {f:Fn}{xs ys:List AV}:AV.pure (.fn f xs ys)↔AV.pure.pures xs/\AV.pure.pures ys:=by simp[AV.pure]
theorem ZMe :AV.pure.pures []↔True:=by simp[AV.pure.pures]
theorem ZKl {x:AV}{r:List AV}:AV.pure.pures (x::r)↔x.pure/\AV.pure.pures r:=by simp[AV.pure.pures]
theorem ZKy {b:Bool}:ZCE (.bool b)↔True:=by simp[ZCE]
theorem ZMn {k:IntKind}{b:Int}:ZCE (.int k b)↔True:=by simp[ZCE]
theorem ZH9 {b:ByteArray}:ZCE (.string b)↔True:=by simp[ZCE]
theorem ZJZ {a:Option Addr}{l c:Nat}:ZCE (.slice a l c)↔True:=by simp[ZCE]
theorem ZGJ {a:Option Addr}:ZCE (.pointer a)↔True:=by simp[ZCE]
theorem ZMm {a:Option Nat}:ZCE (.map a)↔True:=by simp[ZCE]
theorem ZGK :ZCE .nilFunc↔True:=by simp[ZCE]
theorem ZOJ {σ:ZA}{v:Value}:ok1 σ (.lit v)↔ZCE v:=by simp[ok1]
theorem ZOK {σ:ZA}{es:List (List AV)}:ok1 σ (.arr es)↔True:=by simp[ok1]
theorem ZMp {σ:ZA}{e:List AV}{o:Nat}:ok1 σ (.rptr e o)↔True:=by simp[ok1]
theorem ZPc {σ:ZA}{f:Fn}{xs ys:List AV}:ok1 σ (.fn f xs ys)↔True:=by simp[ok1]
theorem ZOI {σ:ZA}{l n:Nat}:ok1 σ (.own l n)=(match σ[l]? with|some (.elems _ es)=>es.length=n|_=>False):=rfl
theorem ZOH {σ:ZA}{l n:Nat}:ok1 σ (.ptr l n)=(match σ[l]? with|some (.cells _)=>True|_=>False):=rfl
theorem ZMq {σ:ZA}{l n i o:Nat}:ok1 σ (.eptr l n i o)=(match σ[l]? with|some (.elems _ es)=>es.length=n/\es≠[]|_=>False):=rfl
theorem ZMo {σ:ZA}:Zh σ []↔True:=by simp[Zh]
theorem ZKz {σ:ZA}{x:AV}{r:List AV}:Zh σ (x::r)↔ok1 σ x/\Zh σ r:=by simp[Zh]
attribute [simp] ZO4 ZO5 ZNc ZO3 ZO2 ZO6 ZO1 ZPy ZNb ZLb ZN6 ZN7 ZMf ZN8 ZN5 ZPa ZMe ZKl ZKy ZMn ZH9 ZJZ ZGJ ZMm ZGK ZOJ ZOK ZMp ZPc ZOI ZOH ZMq ZMo ZKz
end Go.Vl
