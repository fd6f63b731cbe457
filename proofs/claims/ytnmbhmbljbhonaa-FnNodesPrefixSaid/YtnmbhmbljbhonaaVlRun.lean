/- A part of the proof. -/
import Derived.Test.YtnmbhmbljbhonaaVlStep
set_option linter.all false
namespace Go.Vl
open Go Go.RowKit
section
variable {P : Program} {B nb N : Nat}
theorem ZNP {Q:Exit->ASt->Prop}{q:Box Q}{st:ASt}:awp P B nb N .skip st (hold Q q)=(Q .normal st):=rfl
theorem ZKH {Q:Exit->ASt->Prop}{q:Box Q}{st:ASt}{id:Nat}{l:List Oper}:awp P B nb N (.region id (List.toArray l) false) st (hold Q q)=(ZGP P B N (hold (List.toArray l) .mk) l st (hold (Q .normal) .mk)):=by simp only[awp,Bool.false_eq_true,if_false,hold]
theorem ZNS {Q:Exit->ASt->Prop}{q:Box Q}{st:ASt}{id:Nat}{ops:Array Oper}:awp P B nb N (.region id ops true) st (hold Q q)=(ADraw P B nb N (hold ops .mk) st (hold (Q .normal) .mk)):=by simp only[awp,if_true,hold]
theorem ZOQ {Q:Exit->ASt->Prop}{q:Box Q}{st:ASt}{a b:Code}:awp P B nb N (.seq a b) st (hold Q q)=(awp P B nb N a st (hold (ZNz P B nb N b Q) .mk)):=by simp only[hold];rw[awp];congr
theorem ZNT {Q : Exit -> ASt -> Prop} {q : Box Q}{st : ASt}{c : Operand} {a b : Code} : awp P B nb N (.cond c a b) st (hold Q q) = (match ev st.fr c with
    | .lit (.bool v)=>abr (v=true) (hold (awp P B nb N a st (hold Q .mk)) .mk) (hold (awp P B nb N b st (hold Q .mk)) .mk)
    |_=>False):=by
  simp only[awp,hold]
  generalize ev st.fr c=v
  cases v<;>try rfl
  next v=>cases v<;>first|exact ZJW.symm|rfl
theorem ZL2 {Q:Exit->ASt->Prop}{q:Box Q}{st:ASt}{id:Nat}{c:Code}:awp P B nb N (.block id c) st (hold Q q)=(awp P B nb N c st (hold (ZGu id Q) .mk)):=by simp only[hold];rw[awp];congr
theorem ZNQ {Q:Exit->ASt->Prop}{q:Box Q}{st:ASt}{c:Code}:awp P B nb N (.loop c) st (hold Q q)=(ALoop P B nb N (hold c .mk) st (hold Q .mk)):=rfl
theorem ZNR {Q:Exit->ASt->Prop}{q:Box Q}{st:ASt}{i:Nat}:awp P B nb N (.exit i) st (hold Q q)=(Q (.exit i) st):=rfl
theorem ZOR {Q:Exit->ASt->Prop}{q:Box Q}{st:ASt}:awp P B nb N .ret st (hold Q q)=(Q .ret st):=rfl
theorem ZJq {c:Code}{bc:Box c}{Q:Exit->ASt->Prop}{bQ:Box Q}{st:ASt}:ZEf P B nb N (hold c bc) (hold Q bQ) .normal st=Again P B nb N (hold c .mk) (hold Q .mk) st:=rfl
theorem ZOC {c:Code}{bc:Box c}{Q:Exit->ASt->Prop}{bQ:Box Q}{st:ASt}:ZEf P B nb N (hold c bc) (hold Q bQ) .ret st=Leave B nb N (hold Q .mk) .ret st:=rfl
theorem ZMo {c:Code}{bc:Box c}{Q:Exit->ASt->Prop}{bQ:Box Q}{i:Nat}{st:ASt}:ZEf P B nb N (hold c bc) (hold Q bQ) (.exit i) st=Leave B nb N (hold Q .mk) (.exit i) st:=rfl
theorem ZJo {Q:Exit->ASt->Prop}{st:ASt}{b:Code}:ZNz P B nb N b Q .normal st=(awp P B nb N b st (hold Q .mk)):=rfl
theorem ZN8 {Q:Exit->ASt->Prop}{st:ASt}{b:Code}:ZNz P B nb N b Q .ret st=(Q .ret st):=rfl
theorem ZMk {Q:Exit->ASt->Prop}{st:ASt}{b:Code}{i:Nat}:ZNz P B nb N b Q (.exit i) st=(Q (.exit i) st):=rfl
theorem ZKf {Q:Exit->ASt->Prop}{st:ASt}{i:Nat}:ZGu i Q .normal st=(Q .normal st):=rfl
theorem ZOg {Q:Exit->ASt->Prop}{st:ASt}{i:Nat}:ZGu i Q .ret st=(Q .ret st):=rfl
theorem ZNt {Q:Exit->ASt->Prop}{st:ASt}{i j:Nat}:ZGu i Q (.exit j) st=(if j=i then Q .normal st else Q (.exit j) st):=rfl
theorem ZOF {fn:Func}{K:AV->ZF->Prop}{st:ASt}:ZA4 P fn K .ret st=(ZBn P st.σ st.fr fn.results.toList (hold (fun xs=>ZKP st.σ (pack xs) (hold K .mk)) .mk)):=rfl
theorem ZJy {fn:Func}{K:AV->ZF->Prop}{st:ASt}:ZA4 P fn K .normal st=(ZBn P st.σ st.fr fn.results.toList (hold (fun xs=>ZKP st.σ (pack xs) (hold K .mk)) .mk)):=rfl
theorem ZJB {K:ASt->Prop}{k:Box K}{st:ASt}{ops:Array Oper}:ZGP P B N ops [] st (hold K k)=(K st):=rfl
theorem ZHj {K:ASt->Prop}{k:Box K}{st:ASt}{ops:Array Oper}{bo:Box ops}{o:Oper}{rest:List Oper}:ZGP P B N (hold ops bo) (o::rest) st (hold K k)=(ZAd (hold ops .mk) st.fr o.guard (hold (aop P B N o st (hold (fun st'=>ZGP P B N (hold ops .mk) rest st' (hold K .mk)) .mk)) .mk) (hold (ZAQ N o.dst (.lit undef) st.fr st.σ (hold (fun st'=>ZGP P B N (hold ops .mk) rest st' (hold K .mk)) .mk)) .mk)):=rfl
theorem ZF5 {ops:Array Oper}{bo:Box ops}{fr:Frm}{y n:Prop}{b:Box y}{b':Box n}:ZAd (hold ops bo) fr none (hold y b) (hold n b')=(y):=rfl
def ZIE (w:Bool)(v:AV)(y n:Prop):Prop:=match v with
  | .lit (.bool b)=>abr (b=w) (hold y .mk) (hold n .mk)
  | .lit _=>n
  |_=>False
theorem ZG8 {w b:Bool}{y n:Prop}{k:Box y}{k':Box n}:ZIE w (.lit (.bool b)) (hold y k) (hold n k')=abr (b=w) (hold y .mk) (hold n .mk):=rfl
theorem ZFX {w:Bool}{y n:Prop}{k:Box y}{k':Box n}:ZIE w (.lit undef) (hold y k) (hold n k')=n:=rfl
theorem ZF4 {ops : Array Oper} {bo : Box ops}{fr : Frm} {j : Nat} {w : Bool} {y n : Prop} {b : Box y} {b' : Box n} : ZAd (hold ops bo) fr (some (j, w)) (hold y b) (hold n b') = (match (ops[j]?).bind (·.dst) with
      |none=>False
      |some d=>ZIE w (lk fr d) (hold y .mk) (hold n .mk)):=by
  simp only[ZAd,hold]
  generalize(ops[j]?).bind (fun x=>x.dst)=od
  cases od with
  |none=>rfl
  |some d=>
    simp only[]
    generalize lk fr d=v
    cases v<;>try rfl
    next v=>cases v<;>first|(simp only[yb,ZIE,Option.some.injEq];exact ZJW.symm)|(simp[yb,ZIE,hold];done)|rfl
theorem ZND {x:Operand}{d:Option Nat}{t:TypeId}{p:String}{es:Array Edge}{g:Option (Nat×Bool)}{st:ASt}{K:ASt->Prop}{k:Box K}:aop P B N ⟨d,.move x,t,p,es,g⟩ st (hold K k)=(aef P B (.move x) (ev st.fr) st.σ (hold (fun r σ'=>ZAQ N d r st.fr σ' (hold K .mk)) .mk)):=rfl
theorem ZMs {x:Operand}{fr:Frm}{σ:ZF}{K:AV->Prop}{k:Box K}:ZCZ P B (.move x) fr σ (hold K k)=(aef P B (.move x) (ev fr) σ (hold (fun r σ'=>chk (σ'=σ) (hold (K r) .mk)) .mk)):=rfl
theorem ZJ5 {x:Operand}{d:Option Nat}{t:TypeId}{p:String}{es:Array Edge}{g:Option (Nat×Bool)}{st:ASt}{K:ASt->Prop}{k:Box K}:aop P B N ⟨d,.assign x,t,p,es,g⟩ st (hold K k)=(aef P B (.assign x) (ev st.fr) st.σ (hold (fun r σ'=>ZAQ N d r st.fr σ' (hold K .mk)) .mk)):=rfl
theorem ZJs {x:Operand}{fr:Frm}{σ:ZF}{K:AV->Prop}{k:Box K}:ZCZ P B (.assign x) fr σ (hold K k)=(aef P B (.assign x) (ev fr) σ (hold (fun r σ'=>chk (σ'=σ) (hold (K r) .mk)) .mk)):=rfl
theorem ZNC {c a b:Operand}{d:Option Nat}{t:TypeId}{p:String}{es:Array Edge}{g:Option (Nat×Bool)}{st:ASt}{K:ASt->Prop}{k:Box K}:aop P B N ⟨d,.pick c a b,t,p,es,g⟩ st (hold K k)=(aef P B (.pick c a b) (ev st.fr) st.σ (hold (fun r σ'=>ZAQ N d r st.fr σ' (hold K .mk)) .mk)):=rfl
theorem ZMr {c a b:Operand}{fr:Frm}{σ:ZF}{K:AV->Prop}{k:Box K}:ZCZ P B (.pick c a b) fr σ (hold K k)=(aef P B (.pick c a b) (ev fr) σ (hold (fun r σ'=>chk (σ'=σ) (hold (K r) .mk)) .mk)):=rfl
theorem ZLs {e:TypeId}{d:Option Nat}{t:TypeId}{p:String}{es:Array Edge}{g:Option (Nat×Bool)}{st:ASt}{K:ASt->Prop}{k:Box K}:aop P B N ⟨d,.alloc e,t,p,es,g⟩ st (hold K k)=(aef P B (.alloc e) (ev st.fr) st.σ (hold (fun r σ'=>ZAQ N d r st.fr σ' (hold K .mk)) .mk)):=rfl
theorem ZLY {e:TypeId}{fr:Frm}{σ:ZF}{K:AV->Prop}{k:Box K}:ZCZ P B (.alloc e) fr σ (hold K k)=(aef P B (.alloc e) (ev fr) σ (hold (fun r σ'=>chk (σ'=σ) (hold (K r) .mk)) .mk)):=rfl
theorem ZOH {e:TypeId}{x:Operand}{d:Option Nat}{t:TypeId}{p:String}{es:Array Edge}{g:Option (Nat×Bool)}{st:ASt}{K:ASt->Prop}{k:Box K}:aop P B N ⟨d,.box e x,t,p,es,g⟩ st (hold K k)=(aef P B (.box e x) (ev st.fr) st.σ (hold (fun r σ'=>ZAQ N d r st.fr σ' (hold K .mk)) .mk)):=rfl
theorem ZOD {e:TypeId}{x:Operand}{fr:Frm}{σ:ZF}{K:AV->Prop}{k:Box K}:ZCZ P B (.box e x) fr σ (hold K k)=(aef P B (.box e x) (ev fr) σ (hold (fun r σ'=>chk (σ'=σ) (hold (K r) .mk)) .mk)):=rfl
theorem ZLq {ty:TypeId}{parts:Array (Nat×Operand)}{d:Option Nat}{t:TypeId}{p:String}{es:Array Edge}{g:Option (Nat×Bool)}{st:ASt}{K:ASt->Prop}{k:Box K}:aop P B N ⟨d,.build ty parts,t,p,es,g⟩ st (hold K k)=(aef P B (.build ty parts) (ev st.fr) st.σ (hold (fun r σ'=>ZAQ N d r st.fr σ' (hold K .mk)) .mk)):=rfl
theorem ZLW {ty:TypeId}{parts:Array (Nat×Operand)}{fr:Frm}{σ:ZF}{K:AV->Prop}{k:Box K}:ZCZ P B (.build ty parts) fr σ (hold K k)=(aef P B (.build ty parts) (ev fr) σ (hold (fun r σ'=>chk (σ'=σ) (hold (K r) .mk)) .mk)):=rfl
theorem ZEp {ty:TypeId}{len:Nat}{parts:Array (Nat×Operand)}{d:Option Nat}{t:TypeId}{p:String}{es:Array Edge}{g:Option (Nat×Bool)}{st:ASt}{K:ASt->Prop}{k:Box K}:aop P B N ⟨d,.buildSlice ty len parts,t,p,es,g⟩ st (hold K k)=(aef P B (.buildSlice ty len parts) (ev st.fr) st.σ (hold (fun r σ'=>ZAQ N d r st.fr σ' (hold K .mk)) .mk)):=rfl
theorem ZEk {ty:TypeId}{len:Nat}{parts:Array (Nat×Operand)}{fr:Frm}{σ:ZF}{K:AV->Prop}{k:Box K}:ZCZ P B (.buildSlice ty len parts) fr σ (hold K k)=(aef P B (.buildSlice ty len parts) (ev fr) σ (hold (fun r σ'=>chk (σ'=σ) (hold (K r) .mk)) .mk)):=rfl
theorem ZNE {ty:TypeId}{x:Operand}{d:Option Nat}{t:TypeId}{p:String}{es:Array Edge}{g:Option (Nat×Bool)}{st:ASt}{K:ASt->Prop}{k:Box K}:aop P B N ⟨d,.load ty x,t,p,es,g⟩ st (hold K k)=(aef P B (.load ty x) (ev st.fr) st.σ (hold (fun r σ'=>ZAQ N d r st.fr σ' (hold K .mk)) .mk)):=rfl
theorem ZMt {ty:TypeId}{x:Operand}{fr:Frm}{σ:ZF}{K:AV->Prop}{k:Box K}:ZCZ P B (.load ty x) fr σ (hold K k)=(aef P B (.load ty x) (ev fr) σ (hold (fun r σ'=>chk (σ'=σ) (hold (K r) .mk)) .mk)):=rfl
theorem ZLn {ty:TypeId}{x v:Operand}{d:Option Nat}{t:TypeId}{p:String}{es:Array Edge}{g:Option (Nat×Bool)}{st:ASt}{K:ASt->Prop}{k:Box K}:aop P B N ⟨d,.store ty x v,t,p,es,g⟩ st (hold K k)=(aef P B (.store ty x v) (ev st.fr) st.σ (hold (fun r σ'=>ZAQ N d r st.fr σ' (hold K .mk)) .mk)):=rfl
theorem ZLT {ty:TypeId}{x v:Operand}{fr:Frm}{σ:ZF}{K:AV->Prop}{k:Box K}:ZCZ P B (.store ty x v) fr σ (hold K k)=(aef P B (.store ty x v) (ev fr) σ (hold (fun r σ'=>chk (σ'=σ) (hold (K r) .mk)) .mk)):=rfl
theorem ZHT {x:Operand}{d:Option Nat}{t:TypeId}{p:String}{es:Array Edge}{g:Option (Nat×Bool)}{st:ASt}{K:ASt->Prop}{k:Box K}:aop P B N ⟨d,.nilCheck x,t,p,es,g⟩ st (hold K k)=(aef P B (.nilCheck x) (ev st.fr) st.σ (hold (fun r σ'=>ZAQ N d r st.fr σ' (hold K .mk)) .mk)):=rfl
theorem ZHG {x:Operand}{fr:Frm}{σ:ZF}{K:AV->Prop}{k:Box K}:ZCZ P B (.nilCheck x) fr σ (hold K k)=(aef P B (.nilCheck x) (ev fr) σ (hold (fun r σ'=>chk (σ'=σ) (hold (K r) .mk)) .mk)):=rfl
theorem ZLr {op:BinOp}{ty:TypeId}{x y:Operand}{ty2:TypeId}{d:Option Nat}{t:TypeId}{p:String}{es:Array Edge}{g:Option (Nat×Bool)}{st:ASt}{K:ASt->Prop}{k:Box K}:aop P B N ⟨d,.binOp op ty x y ty2,t,p,es,g⟩ st (hold K k)=(aef P B (.binOp op ty x y ty2) (ev st.fr) st.σ (hold (fun r σ'=>ZAQ N d r st.fr σ' (hold K .mk)) .mk)):=rfl
theorem ZLX {op:BinOp}{ty:TypeId}{x y:Operand}{ty2:TypeId}{fr:Frm}{σ:ZF}{K:AV->Prop}{k:Box K}:ZCZ P B (.binOp op ty x y ty2) fr σ (hold K k)=(aef P B (.binOp op ty x y ty2) (ev fr) σ (hold (fun r σ'=>chk (σ'=σ) (hold (K r) .mk)) .mk)):=rfl
theorem ZNB {op:UnOp}{ty:TypeId}{x:Operand}{d:Option Nat}{t:TypeId}{p:String}{es:Array Edge}{g:Option (Nat×Bool)}{st:ASt}{K:ASt->Prop}{k:Box K}:aop P B N ⟨d,.unOp op ty x,t,p,es,g⟩ st (hold K k)=(aef P B (.unOp op ty x) (ev st.fr) st.σ (hold (fun r σ'=>ZAQ N d r st.fr σ' (hold K .mk)) .mk)):=rfl
theorem ZMq {op:UnOp}{ty:TypeId}{x:Operand}{fr:Frm}{σ:ZF}{K:AV->Prop}{k:Box K}:ZCZ P B (.unOp op ty x) fr σ (hold K k)=(aef P B (.unOp op ty x) (ev fr) σ (hold (fun r σ'=>chk (σ'=σ) (hold (K r) .mk)) .mk)):=rfl
theorem ZIr {ty ty2:TypeId}{x:Operand}{d:Option Nat}{t:TypeId}{p:String}{es:Array Edge}{g:Option (Nat×Bool)}{st:ASt}{K:ASt->Prop}{k:Box K}:aop P B N ⟨d,.convert ty ty2 x,t,p,es,g⟩ st (hold K k)=(aef P B (.convert ty ty2 x) (ev st.fr) st.σ (hold (fun r σ'=>ZAQ N d r st.fr σ' (hold K .mk)) .mk)):=rfl
theorem ZIR {ty ty2:TypeId}{x:Operand}{fr:Frm}{σ:ZF}{K:AV->Prop}{k:Box K}:ZCZ P B (.convert ty ty2 x) fr σ (hold K k)=(aef P B (.convert ty ty2 x) (ev fr) σ (hold (fun r σ'=>chk (σ'=σ) (hold (K r) .mk)) .mk)):=rfl
theorem ZHU {fn:Fn}{first captured:Array Operand}{d:Option Nat}{t:TypeId}{p:String}{es:Array Edge}{g:Option (Nat×Bool)}{st:ASt}{K:ASt->Prop}{k:Box K}:aop P B N ⟨d,.makeFunc fn first captured,t,p,es,g⟩ st (hold K k)=(aef P B (.makeFunc fn first captured) (ev st.fr) st.σ (hold (fun r σ'=>ZAQ N d r st.fr σ' (hold K .mk)) .mk)):=rfl
theorem ZHH {fn:Fn}{first captured:Array Operand}{fr:Frm}{σ:ZF}{K:AV->Prop}{k:Box K}:ZCZ P B (.makeFunc fn first captured) fr σ (hold K k)=(aef P B (.makeFunc fn first captured) (ev fr) σ (hold (fun r σ'=>chk (σ'=σ) (hold (K r) .mk)) .mk)):=rfl
theorem ZFu {ty:TypeId}{len cap:Operand}{d:Option Nat}{t:TypeId}{p:String}{es:Array Edge}{g:Option (Nat×Bool)}{st:ASt}{K:ASt->Prop}{k:Box K}:aop P B N ⟨d,.makeSlice ty len cap,t,p,es,g⟩ st (hold K k)=(aef P B (.makeSlice ty len cap) (ev st.fr) st.σ (hold (fun r σ'=>ZAQ N d r st.fr σ' (hold K .mk)) .mk)):=rfl
theorem ZFh {ty:TypeId}{len cap:Operand}{fr:Frm}{σ:ZF}{K:AV->Prop}{k:Box K}:ZCZ P B (.makeSlice ty len cap) fr σ (hold K k)=(aef P B (.makeSlice ty len cap) (ev fr) σ (hold (fun r σ'=>chk (σ'=σ) (hold (K r) .mk)) .mk)):=rfl
theorem ZLo {ty:TypeId}{x:Operand}{low high mx:Option Operand}{d:Option Nat}{t:TypeId}{p:String}{es:Array Edge}{g:Option (Nat×Bool)}{st:ASt}{K:ASt->Prop}{k:Box K}:aop P B N ⟨d,.slice ty x low high mx,t,p,es,g⟩ st (hold K k)=(aef P B (.slice ty x low high mx) (ev st.fr) st.σ (hold (fun r σ'=>ZAQ N d r st.fr σ' (hold K .mk)) .mk)):=rfl
theorem ZLU {ty:TypeId}{x:Operand}{low high mx:Option Operand}{fr:Frm}{σ:ZF}{K:AV->Prop}{k:Box K}:ZCZ P B (.slice ty x low high mx) fr σ (hold K k)=(aef P B (.slice ty x low high mx) (ev fr) σ (hold (fun r σ'=>chk (σ'=σ) (hold (K r) .mk)) .mk)):=rfl
theorem ZFw {ty:TypeId}{x:Operand}{f:Nat}{d:Option Nat}{t:TypeId}{p:String}{es:Array Edge}{g:Option (Nat×Bool)}{st:ASt}{K:ASt->Prop}{k:Box K}:aop P B N ⟨d,.fieldAddr ty x f,t,p,es,g⟩ st (hold K k)=(aef P B (.fieldAddr ty x f) (ev st.fr) st.σ (hold (fun r σ'=>ZAQ N d r st.fr σ' (hold K .mk)) .mk)):=rfl
theorem ZFj {ty:TypeId}{x:Operand}{f:Nat}{fr:Frm}{σ:ZF}{K:AV->Prop}{k:Box K}:ZCZ P B (.fieldAddr ty x f) fr σ (hold K k)=(aef P B (.fieldAddr ty x f) (ev fr) σ (hold (fun r σ'=>chk (σ'=σ) (hold (K r) .mk)) .mk)):=rfl
theorem ZFv {ty:TypeId}{x i:Operand}{d:Option Nat}{t:TypeId}{p:String}{es:Array Edge}{g:Option (Nat×Bool)}{st:ASt}{K:ASt->Prop}{k:Box K}:aop P B N ⟨d,.indexAddr ty x i,t,p,es,g⟩ st (hold K k)=(aef P B (.indexAddr ty x i) (ev st.fr) st.σ (hold (fun r σ'=>ZAQ N d r st.fr σ' (hold K .mk)) .mk)):=rfl
theorem ZFi {ty:TypeId}{x i:Operand}{fr:Frm}{σ:ZF}{K:AV->Prop}{k:Box K}:ZCZ P B (.indexAddr ty x i) fr σ (hold K k)=(aef P B (.indexAddr ty x i) (ev fr) σ (hold (fun r σ'=>chk (σ'=σ) (hold (K r) .mk)) .mk)):=rfl
theorem ZLp {ty:TypeId}{x i:Operand}{d:Option Nat}{t:TypeId}{p:String}{es:Array Edge}{g:Option (Nat×Bool)}{st:ASt}{K:ASt->Prop}{k:Box K}:aop P B N ⟨d,.index ty x i,t,p,es,g⟩ st (hold K k)=(aef P B (.index ty x i) (ev st.fr) st.σ (hold (fun r σ'=>ZAQ N d r st.fr σ' (hold K .mk)) .mk)):=rfl
theorem ZLV {ty:TypeId}{x i:Operand}{fr:Frm}{σ:ZF}{K:AV->Prop}{k:Box K}:ZCZ P B (.index ty x i) fr σ (hold K k)=(aef P B (.index ty x i) (ev fr) σ (hold (fun r σ'=>chk (σ'=σ) (hold (K r) .mk)) .mk)):=rfl
theorem ZIq {x:Operand}{i:Nat}{d:Option Nat}{t:TypeId}{p:String}{es:Array Edge}{g:Option (Nat×Bool)}{st:ASt}{K:ASt->Prop}{k:Box K}:aop P B N ⟨d,.extract x i,t,p,es,g⟩ st (hold K k)=(aef P B (.extract x i) (ev st.fr) st.σ (hold (fun r σ'=>ZAQ N d r st.fr σ' (hold K .mk)) .mk)):=rfl
theorem ZIQ {x:Operand}{i:Nat}{fr:Frm}{σ:ZF}{K:AV->Prop}{k:Box K}:ZCZ P B (.extract x i) fr σ (hold K k)=(aef P B (.extract x i) (ev fr) σ (hold (fun r σ'=>chk (σ'=σ) (hold (K r) .mk)) .mk)):=rfl
theorem ZIs {bi:Builtin}{args:Array Operand}{ts:Array TypeId}{d:Option Nat}{t:TypeId}{p:String}{es:Array Edge}{g:Option (Nat×Bool)}{st:ASt}{K:ASt->Prop}{k:Box K}:aop P B N ⟨d,.call {callee:=.builtin bi,args:=args,argTypes:=ts},t,p,es,g⟩ st (hold K k)=(aef P B (.call {callee:=.builtin bi,args:=args,argTypes:=ts}) (ev st.fr) st.σ (hold (fun r σ'=>ZAQ N d r st.fr σ' (hold K .mk)) .mk)):=rfl
theorem ZIS {bi:Builtin}{args:Array Operand}{ts:Array TypeId}{fr:Frm}{σ:ZF}{K:AV->Prop}{k:Box K}:ZCZ P B (.call {callee:=.builtin bi,args:=args,argTypes:=ts}) fr σ (hold K k)=(aef P B (.call {callee:=.builtin bi,args:=args,argTypes:=ts}) (ev fr) σ (hold (fun r σ'=>chk (σ'=σ) (hold (K r) .mk)) .mk)):=rfl
theorem ZNF {f:Operand}{args:Array Operand}{ts:Array TypeId}{d:Option Nat}{t:TypeId}{p:String}{es:Array Edge}{g:Option (Nat×Bool)}{st:ASt}{K:ASt->Prop}{k:Box K}:aop P B N ⟨d,.call {callee:=.value f,args:=args,argTypes:=ts},t,p,es,g⟩ st (hold K k)=(ZFL P B (ev st.fr f) (args.toList.map (ev st.fr)) st.σ (hold (fun r σ'=>ZAQ N d r st.fr σ' (hold K .mk)) .mk)):=rfl
theorem ZMu {f:Operand}{args:Array Operand}{ts:Array TypeId}{fr:Frm}{σ:ZF}{K:AV->Prop}{k:Box K}:ZCZ P B (.call {callee:=.value f,args:=args,argTypes:=ts}) fr σ (hold K k)=(PCall P B (ev fr f) (args.toList.map (ev fr)) (hold K .mk)):=rfl
theorem ZL1 {f : AV} {args : List AV} {σ : ZF}{K : AV -> ZF -> Prop} {k : Box K} : ZFL P B f args σ (hold K k) = (match f with
    | .fn (.func i) first cap=>ACall P B i (first++args++cap) σ (hold K .mk)
    |_=>False):=by
  cases f<;>try rfl
theorem ZL0 {f : AV} {args : List AV}{K : AV -> Prop} {k : Box K} : PCall P B f args (hold K k) = (match f with
    | .fn (.func i) first cap=>ZDT P B i (first++args++cap) (hold K .mk)
    |_=>False):=by
  cases f<;>try rfl
theorem ZHi {r:AV}{fr:Frm}{σ:ZF}{K:ASt->Prop}{k:Box K}:ZAQ N none r fr σ (hold K k)=(K ⟨fr,σ⟩):=rfl
theorem ZHh {d:Nat}{r:AV}{fr:Frm}{σ:ZF}{K:ASt->Prop}{k:Box K}(h:d<N):ZAQ N (some d) r fr σ (hold K k)=K ⟨(d,r)::fr,σ⟩:=by simp[ZAQ,hold,h]
theorem ZL3 {ops:Array Oper}{fr:Frm}{σ:ZF}{K:Frm->Prop}{k:Box K}:aP P B N ops [] fr σ (hold K k)=(K fr):=rfl
theorem ZKI {ops:Array Oper}{bo:Box ops}{o:Oper}{rest:List Oper}{fr:Frm}{σ:ZF}{K:Frm->Prop}{k:Box K}:aP P B N (hold ops bo) (o::rest) fr σ (hold K k)=(ZAd (hold ops .mk) fr o.guard (hold (ZCZ P B o.op fr σ (hold (fun r=>ZEa N o.dst (hold (aP P B N (hold ops .mk) rest (ZAH o.dst r fr) σ (hold K .mk)) .mk)) .mk)) .mk) (hold (ZEa N o.dst (hold (aP P B N (hold ops .mk) rest (ZAH o.dst (.lit undef) fr) σ (hold K .mk)) .mk)) .mk)):=by rw[aP];rfl
theorem ZHl {K:Prop}{k:Box K}:ZEa N none (hold K k)=(K):=by simp[ZEa,dOk,hold]
theorem ZHk {d:Nat}{K:Prop}{k:Box K}(h:d<N):ZEa N (some d) (hold K k)=K:=by simp[ZEa,dOk,hold,h]
theorem ZEx {α:Type}{l:List α}:(List.toArray l).toList=(l):=rfl
theorem ZNi {x:Operand}{ρ:Operand->AV}{σ:ZF}{K:AV->ZF->Prop}{k:Box K}:aef P B (.move x) ρ σ (hold K k)=(K (ρ x) σ):=rfl
theorem ZKZ {x:Operand}{ρ:Operand->AV}{σ:ZF}{K:AV->ZF->Prop}{k:Box K}:aef P B (.assign x) ρ σ (hold K k)=(K (ρ x) σ):=rfl
theorem ZNh {c a b : Operand}{ρ : Operand -> AV} {σ : ZF}{K : AV -> ZF -> Prop} {k : Box K} : aef P B (.pick c a b) ρ σ (hold K k) = (match ρ c with
    | .lit (.bool v)=>abr (v=true) (hold (K (ρ a) σ) .mk) (hold (K (ρ b) σ) .mk)
    |_=>False):=by
  simp only[aef,hold]
  generalize ρ c=v
  cases v<;>try rfl
  next v=>cases v<;>first|(rename_i v;cases v<;>simp[abr];done)|rfl
theorem ZMP {t : TypeId}{ρ : Operand -> AV} {σ : ZF}{K : AV -> ZF -> Prop} {k : Box K} : aef P B (.alloc t) ρ σ (hold K k) = (match Ze P t with
    |some i=>chk (i.zero≠[]) (hold (K (.ptr σ.length 0) (σ++[.cells (i.zero.map .lit)])) .mk)
    |none=>False):=rfl
theorem ZOd {t:TypeId}{x:Operand}{ρ:Operand->AV}{σ:ZF}{K:AV->ZF->Prop}{k:Box K}:aef P B (.box t x) ρ σ (hold K k)=(AV.cellsK σ (ρ x) (hold (fun cs=>K (.ptr σ.length 0) (σ++[.cells cs])) .mk)):=rfl
theorem ZMN {t:TypeId}{parts:Array (Nat×Operand)}{ρ:Operand->AV}{σ:ZF}{K:AV->ZF->Prop}{k:Box K}:aef P B (.build t parts) ρ σ (hold K k)=(ZBY P t σ (parts.toList.map fun p=>(p.1,ρ p.2)) (hold K .mk)):=rfl
theorem ZE8 {t:TypeId}{len:Nat}{parts:Array (Nat×Operand)}{ρ:Operand->AV}{σ:ZF}{K:AV->ZF->Prop}{k:Box K}:aef P B (.buildSlice t len parts) ρ σ (hold K k)=(Zw P B t σ len (parts.toList.map fun p=>(p.1,ρ p.2)) (hold K .mk)):=rfl
theorem ZNj {t:TypeId}{x:Operand}{ρ:Operand->AV}{σ:ZF}{K:AV->ZF->Prop}{k:Box K}:aef P B (.load t x) ρ σ (hold K k)=(ZBP P t σ (ρ x) (hold (fun r=>K r σ) .mk)):=rfl
theorem ZMK {t:TypeId}{a x:Operand}{ρ:Operand->AV}{σ:ZF}{K:AV->ZF->Prop}{k:Box K}:aef P B (.store t a x) ρ σ (hold K k)=(ZDP P t σ (ρ a) (ρ x) (hold (fun σ'=>K (.lit undef) σ') .mk)):=rfl
theorem ZHu {x:Operand}{ρ:Operand->AV}{σ:ZF}{K:AV->ZF->Prop}{k:Box K}:aef P B (.nilCheck x) ρ σ (hold K k)=(chk (ZBd σ (ρ x)) (hold (K (ρ x) σ) .mk)):=rfl
theorem ZMO {op:BinOp}{t yt:TypeId}{x y:Operand}{ρ:Operand->AV}{σ:ZF}{K:AV->ZF->Prop}{k:Box K}:aef P B (.binOp op t x y yt) ρ σ (hold K k)=(ZMU P op t (ρ x) (ρ y) (hold (fun r=>K r σ) .mk)):=rfl
theorem ZNg {op:UnOp}{t:TypeId}{x:Operand}{ρ:Operand->AV}{σ:ZF}{K:AV->ZF->Prop}{k:Box K}:aef P B (.unOp op t x) ρ σ (hold K k)=(aUn op (ρ x) (hold (fun r=>K r σ) .mk)):=rfl
theorem ZJJ {s d:TypeId}{x:Operand}{ρ:Operand->AV}{σ:ZF}{K:AV->ZF->Prop}{k:Box K}:aef P B (.convert s d x) ρ σ (hold K k)=(ZDb P s d σ (ρ x) (hold (fun r=>K r σ) .mk)):=rfl
theorem ZHv {fn:Fn}{first cap:Array Operand}{ρ:Operand->AV}{σ:ZF}{K:AV->ZF->Prop}{k:Box K}:aef P B (.makeFunc fn first cap) ρ σ (hold K k)=(K (.fn fn (first.toList.map ρ) (cap.toList.map ρ)) σ):=rfl
theorem ZGG {t:TypeId}{l c:Operand}{ρ:Operand->AV}{σ:ZF}{K:AV->ZF->Prop}{k:Box K}:aef P B (.makeSlice t l c) ρ σ (hold K k)=(ZAG P B t σ (ρ l) (ρ c) (hold K .mk)):=rfl
theorem ZML {t:TypeId}{x:Operand}{lo hi mx:Option Operand}{ρ:Operand->AV}{σ:ZF}{K:AV->ZF->Prop}{k:Box K}:aef P B (.slice t x lo hi mx) ρ σ (hold K k)=(ZBW P t σ (ρ x) (lo.map ρ) (hi.map ρ) (mx.map ρ) (hold K .mk)):=rfl
theorem ZGI {t:TypeId}{x:Operand}{f:Nat}{ρ:Operand->AV}{σ:ZF}{K:AV->ZF->Prop}{k:Box K}:aef P B (.fieldAddr t x f) ρ σ (hold K k)=(Zz P t σ (ρ x) f (hold (fun r=>K r σ) .mk)):=rfl
theorem ZGH {t:TypeId}{x i:Operand}{ρ:Operand->AV}{σ:ZF}{K:AV->ZF->Prop}{k:Box K}:aef P B (.indexAddr t x i) ρ σ (hold K k)=(Zt P t σ (ρ x) (ρ i) (hold (fun r=>K r σ) .mk)):=rfl
theorem ZMM {t:TypeId}{x i:Operand}{ρ:Operand->AV}{σ:ZF}{K:AV->ZF->Prop}{k:Box K}:aef P B (.index t x i) ρ σ (hold K k)=(ZCl P t (ρ x) (ρ i) (hold (fun r=>K r σ) .mk)):=rfl
theorem ZJI {x : Operand} {i : Nat}{ρ : Operand -> AV} {σ : ZF}{K : AV -> ZF -> Prop} {k : Box K} : aef P B (.extract x i) ρ σ (hold K k) = (match ρ x with
    | .tup vs=>chk (i<vs.length) (hold (K (vs.getD i .junk) σ) .mk)
    |_=>False):=rfl
theorem ZOc {x y:Operand}{t t2:TypeId}{ρ:Operand->AV}{σ:ZF}{K:AV->ZF->Prop}{k:Box K}:aef P B (.call {callee:=.builtin .len,args:=List.toArray [x],argTypes:=List.toArray [t]}) ρ σ (hold K k)=(ZKj P t σ (ρ x) (hold (fun r=>K r σ) .mk)):=rfl
theorem ZKa {x y:Operand}{t t2:TypeId}{ρ:Operand->AV}{σ:ZF}{K:AV->ZF->Prop}{k:Box K}:aef P B (.call {callee:=.builtin .append,args:=List.toArray [x,y],argTypes:=List.toArray [t,t2]}) ρ σ (hold K k)=(ZBm P B t t2 σ (ρ x) (ρ y) (hold K .mk)):=rfl
theorem ZOb {x y : Operand} {t t2 : TypeId}{ρ : Operand -> AV} {σ : ZF}{K : AV -> ZF -> Prop} {k : Box K} : aef P B (.call { callee := .builtin .min, args := List.toArray [x, y], argTypes := List.toArray [t, t2] }) ρ σ (hold K k) = (match ρ x, ρ y with
    | .lit (.int k a),.lit (.int _ b)=>K (.lit (.int k (if b<a then b else a))) σ
    |_,_=>False):=by
  simp only[aef,hold,List.map_cons,List.map_nil]
  unfold ZA2
  generalize ρ x=v;generalize ρ y=u
  cases v<;>try rfl
  next v => cases v <;> try rfl
            cases u<;>try rfl
            next u=>cases u<;>rfl
theorem ZKU {σ:ZF}{x:AV}{K:List AV->Prop}{k:Box K}:AV.cellsK σ x (hold K k)=(match x with
  | .agg cs=>K cs
  | .lit v=>chk (ZDX v) (hold (K [.lit v]) .mk)
  | .arr es=>K [.arr es]
  | .rptr e o=>K [.rptr e o]
  | .fn f a b=>K [.fn f a b]
  | .own l n=>chk (ok1 σ (.own l n)) (hold (K [.own l n]) .mk)
  | .ptr l n=>chk (ok1 σ (.ptr l n)) (hold (K [.ptr l n]) .mk)
  | .eptr l n i o=>chk (ok1 σ (.eptr l n i o)) (hold (K [.eptr l n i o]) .mk)
  | .junk=>False
  | .pre _ _ _=>False
  | .tup _=>False):=by cases x<;>simp[AV.cellsK,ok1,hold,chk]
theorem ZOY {e:List AV}{off n:Nat}{K:List AV->Prop}{k:Box K}:rdE e off n (hold K k)=(if off=0/\n=e.length then K e else chk (off+n<=e.length) (hold (K ((e.drop off).take n)) .mk)):=rfl
theorem ZOX {σ:ZF}{p:AV}{n:Nat}{K:List AV->Prop}{k:Box K}:rdN σ p n (hold K k)=(match p with
  | .rptr e off=>rdE e off n (hold K .mk)
  | .ptr l off=>match σ[l]? with
    |some (.cells cs)=>rdE cs off n (hold K .mk)
    |_=>False
  | .eptr l k i off=>match σ[l]? with
    |some (.elems _ es)=>chk (es.length=k) (hold (chk (i<es.length) (hold (rdE (es.getD i []) off n (hold K .mk)) .mk)) .mk)
    |_=>False
  |_=>False):=rfl
theorem ZOZ {σ:ZF}{p:AV}{K:AV->Prop}{k:Box K}:rd1 σ p (hold K k)=(match p with
  | .rptr e off=>chk (off<e.length) (hold (K (e.getD off .junk)) .mk)
  | .ptr l off=>match σ[l]? with
    |some (.cells cs)=>chk (off<cs.length) (hold (K (cs.getD off .junk)) .mk)
    |_=>False
  | .eptr l k i off=>match σ[l]? with
    |some (.elems _ es)=>chk (es.length=k) (hold (chk (i<es.length) (hold (chk (off<(es.getD i []).length) (hold (K ((es.getD i []).getD off .junk)) .mk)) .mk)) .mk)
    |_=>False
  |_=>False):=rfl
theorem ZME {σ:ZF}{t:TypeId}{p:AV}{K:AV->Prop}{k:Box K}:ZBP P t σ p (hold K k)=(match Ze P t with
  |some i=>if i.sh.isAgg then rdN σ p i.size (hold (fun cs=>K (.agg cs)) .mk)else rd1 σ p (hold K .mk)
  |none=>False):=rfl
theorem ZOW {e cs:List AV}{off:Nat}{K:List AV->Prop}{k:Box K}:wrE e off cs (hold K k)=(if off=0/\cs.length=e.length then K cs
  else chk (off+cs.length<=e.length) (hold (K (e.take off++cs++e.drop (off+cs.length))) .mk)):=rfl
theorem ZOV {σ:ZF}{p:AV}{cs:List AV}{K:ZF->Prop}{k:Box K}:wrN σ p cs (hold K k)=(match p with
  | .ptr l off=>match σ[l]? with
    |some (.cells old)=>wrE old off cs (hold (fun new=>K (σ.set l (.cells new))) .mk)
    |_=>False
  | .eptr l k i off=>match σ[l]? with
    |some (.elems sz es)=>chk (es.length=k) (hold (chk (i<es.length) (hold (wrE (es.getD i []) off cs (hold (fun new=>K (σ.set l (.elems sz (es.set i (new.map (nzs σ)))))) .mk)) .mk)) .mk)
    |_=>False
  |_=>False):=rfl
theorem ZKV {σ:ZF}{t:TypeId}{p v:AV}{K:ZF->Prop}{k:Box K}:ZDP P t σ p v (hold K k)=(match Ze P t with
  |some i=>AV.cellsK σ v (hold (fun cs=>chk (cs.length=i.size) (hold (chk (Zh σ cs) (hold (wrN σ p cs (hold K .mk)) .mk)) .mk)) .mk)
  |none=>False):=rfl
theorem ZE6 {σ:ZF}{t:TypeId}{p:AV}{f:Nat}{K:AV->Prop}{k:Box K}:Zz P t σ p f (hold K k)=(match Ze P t with
  |some ⟨.struct offs,_,_⟩=>match offs[f]? with
    |some (o,s+1)=>chk (ZBd σ p) (hold (K (p.adv o)) .mk)
    |_=>False
  |_=>False):=rfl
theorem ZE4 {σ:ZF}{t:TypeId}{x i:AV}{K:AV->Prop}{k:Box K}:Zt P t σ x i (hold K k)=(match i,Ze P t with
  | .lit (.int _ n),some ⟨.slice sz _ _,_,_⟩=>match x with
    | .arr es=>chk (0<=n) (hold (chk (n.toNat<es.length) (hold (chk ((es.getD n.toNat []).length=sz) (hold (K (.rptr (es.getD n.toNat []) 0)) .mk)) .mk)) .mk)
    | .own l k=>match σ[l]? with
      |some (.elems sz' es)=>chk (es.length=k) (hold (chk (sz'=sz) (hold (chk (0<=n) (hold (chk (n.toNat<k) (hold (K (.eptr l k n.toNat 0)) .mk)) .mk)) .mk)) .mk)
      |_=>False
    |_=>False
  | .lit (.int _ n),some ⟨.array len (sz+1),_,_⟩=>chk (0<=n) (hold (chk (n.toNat<len) (hold (chk (ZBd σ x) (hold (K (x.adv (n.toNat*(sz+1)))) .mk)) .mk)) .mk)
  |_,_=>False):=rfl
theorem ZKX {t:TypeId}{x i:AV}{K:AV->Prop}{k:Box K}:ZCl P t x i (hold K k)=(match x,i with
  | .lit (.string s),.lit (.int _ n)=>chk (P.underlying t=some .string) (hold (chk (0<=n) (hold (chk (n.toNat<s.size) (hold (K (.lit (.int .u8 (byteAt s n.toNat)))) .mk)) .mk)) .mk)
  | .agg cs,.lit (.int _ n)=>match P.underlying t with
    |some (.array len e)=>match Ze P e with
      |some j=>chk (j.sh.isAgg=false) (hold (chk (j.size=1) (hold (chk (len=cs.length) (hold (chk (0<=n) (hold (chk (n.toNat<len) (hold (K (cs.getD n.toNat .junk)) .mk)) .mk)) .mk)) .mk)) .mk)
      |none=>False
    |_=>False
  |_,_=>False):=rfl
theorem ZNd {σ:ZF}{t:TypeId}{x:AV}{K:AV->Prop}{k:Box K}:ZKj P t σ x (hold K k)=(match P.underlying t with
  |some (.slice _)=>match x with
    | .arr es=>K (.lit (.int .i64 es.length))
    | .lit (.slice none 0 0)=>K (.lit (.int .i64 0))
    | .own l k=>K (.lit (.int .i64 k))
    |_=>False
  |some .string=>match x with
    | .lit (.string s)=>K (.lit (.int .i64 s.size))
    |_=>False
  |some (.array n _)=>K (.lit (.int .i64 n))
  |_=>False):=rfl
theorem ZKT {σ:ZF}{x:AV}{K:List (List AV)->Prop}{k:Box K}:ZCk σ x (hold K k)=(match x with
  | .arr es=>K es
  | .lit (.slice none 0 0)=>K []
  | .lit (.slice (some _) 0 _)=>K []
  | .own l k=>match σ[l]? with
    |some (.elems _ es)=>chk (es.length=k) (hold (K es) .mk)
    |_=>False
  |_=>False):=rfl
theorem ZJG {σ:ZF}{t t2:TypeId}{s x:AV}{K:AV->ZF->Prop}{k:Box K}:ZBm P B t t2 σ s x (hold K k)=(match Ze P t,P.underlying t2 with
  |some ⟨.slice sz bytes zs,_,_⟩,some (.slice _)=>
    chk (zs.length=sz) (hold (chk (sz≠0) (hold (chk (bytes≠0) (hold (ZCk σ x (hold (fun new=>chk (ZHc sz new) (hold (chk (ZCn σ new) (hold (
      match s with
      | .lit (.slice none 0 0) => chk (new.length <= B) (hold (chk ((2 * new.length + 1024) * bytes <= 281474976710656) (hold (
          K (.own σ.length new.length) (σ++[.elems sz new])) .mk)) .mk)
      | .own l n=>match σ[l]? with
        | some (.elems sz' es) => chk (es.length = n) (hold (chk (sz' = sz) (hold (chk (n + new.length <= B) (hold (chk ((2 * (n + new.length) + 1024) * bytes <= 281474976710656) (hold (
            K (.own l (n+new.length)) (σ.set l (.elems sz (es++new)))) .mk)) .mk)) .mk)) .mk)
        |_=>False
      |_=>False) .mk)) .mk)) .mk)) .mk)) .mk)) .mk)
  |_,_=>False):=rfl
theorem ZNe {op:BinOp}{t:TypeId}{x y:AV}{K:AV->Prop}{k:Box K}:ZMU P op t x y (hold K k)=(match x,y with
  | .lit (.int k a),.lit (.int k' b)=>chk (k=k') (hold (match op with
    | .add=>K (.lit (.int k (k.wrap (a+b))))
    | .sub=>K (.lit (.int k (k.wrap (a-b))))
    | .mul=>K (.lit (.int k (k.wrap (a*b))))
    | .quo=>chk (b≠0) (hold (K (.lit (.int k (k.wrap (a.tdiv b))))) .mk)
    | .rem=>chk (b≠0) (hold (K (.lit (.int k (a.tmod b)))) .mk)
    | .eql=>K (.lit (.bool (a==b)))
    | .neq=>K (.lit (.bool (a !=b)))
    | .lss=>K (.lit (.bool (a<b)))
    | .leq=>K (.lit (.bool (a<=b)))
    | .gtr=>K (.lit (.bool (a>b)))
    | .geq=>K (.lit (.bool (a≥b)))
    | .xor=>K (.lit (.int k (ZMb k a b)))
    |_=>False) .mk)
  | .lit (.string a),.lit (.string b)=>match op with
    | .add=>chk ((a.size+b.size:Nat)<=9223372036854775807) (hold (K (.lit (.string (a++b)))) .mk)
    | .eql=>K (.lit (.bool (a.toList==b.toList)))
    | .neq=>K (.lit (.bool (!(a.toList==b.toList))))
    |_=>False
  | .lit (.bool a),.lit (.bool b)=>chk (P.underlying t=some .bool) (hold (match op with
    | .eql=>K (.lit (.bool (a==b)))
    | .neq=>K (.lit (.bool (!(a==b))))
    |_=>False) .mk)
  | .agg xs,.agg ys=>match ZA8 xs,ZA8 ys with
    |some p,some q=>chk (ZBz P t=true) (hold (match op with
      | .eql=>K (.lit (.bool (dec (eq2 p q))))
      | .neq=>K (.lit (.bool (!dec (eq2 p q))))
      |_=>False) .mk)
    |_,_=>match ZA5 xs,ZA5 ys with
      |some p,some q=>chk (ZCd P t=true) (hold (match op with
        | .eql=>K (.lit (.bool (dec (eq3 p q))))
        | .neq=>K (.lit (.bool (!dec (eq3 p q))))
        |_=>False) .mk)
      |_,_=>match ZBu xs,ZBu ys with
        |some p,some q=>chk (ZC3 P t=true) (hold (match op with
          | .eql=>K (.lit (.bool (dec (eq4 p q))))
          | .neq=>K (.lit (.bool (!dec (eq4 p q))))
          |_=>False) .mk)
        |_,_=>False
  | .arr es,.lit (.slice none 0 0)=>chk (ZCv P t=true) (hold (chk (es≠[]) (hold (match op with
    | .eql=>K (.lit (.bool false))
    | .neq=>K (.lit (.bool true))
    |_=>False) .mk)) .mk)
  | .lit (.slice a n c),.lit (.slice none 0 0)=>chk (ZCv P t=true) (hold (match op with
    | .eql=>K (.lit (.bool a.isNone))
    | .neq=>K (.lit (.bool (!a.isNone)))
    |_=>False) .mk)
  |_,_=>False):=rfl
theorem ZOa {op:UnOp}{x:AV}{K:AV->Prop}{k:Box K}:aUn op x (hold K k)=(match op,x with
  | .not,.lit (.bool b)=>K (.lit (.bool (!b)))
  | .neg,.lit (.int k n)=>K (.lit (.int k (k.wrap (0-n))))
  |_,_=>False):=rfl
theorem ZMF {s d:TypeId}{σ:ZF}{x:AV}{K:AV->Prop}{k:Box K}:ZDb P s d σ x (hold K k)=(match P.underlying s,P.underlying d,x with
  |some (.int _),some (.int k),.lit (.int _ n)=>K (.lit (.int k (k.wrap n)))
  |some (.slice e),some .string,.arr es=>chk (ZA0 P (some (.slice e))=true) (hold (match u8s es with
    |some ns=>K (.lit (.string (ZFO ns)))
    |none=>False) .mk)
  |some (.slice e),some .string,.own l n=>chk (ZA0 P (some (.slice e))=true) (hold (match σ[l]? with
    |some (.elems _ es)=>chk (es.length=n) (hold (match u8s es with
      |some ns=>K (.lit (.string (ZFO ns)))
      |none=>False) .mk)
    |_=>False) .mk)
  |_,_,_=>False):=rfl
theorem ZJF {σ:ZF}{K:List AV->ZF->Prop}{k:Box K}:frz σ [] (hold K k)=(K [] σ):=id rfl
theorem ZHp {σ:ZF}{x:AV}{r:List AV}{K:List AV->ZF->Prop}{k:Box K}:frz σ (x::r) (hold K k)=(match x with
  | .own l n=>(match σ[l]? with
    |some (.elems _ es)=>chk (es.length=n) (hold (chk (Zd es) (hold (frz (σ.set l .dead) r (hold (fun r' σ'=>K (.arr es::r') σ') .mk)) .mk)) .mk)
    |_=>False)
  | .lit v=>frz σ r (hold (fun r' σ'=>K (.lit v::r') σ') .mk)
  | .arr v=>frz σ r (hold (fun r' σ'=>K (.arr v::r') σ') .mk)
  |y=>frz σ r (hold (fun r' σ'=>K (y::r') σ') .mk)):=by
  simp only[hold]
  cases x with
  |own l n=>simp only[frz];generalize σ[l]? =ob;rcases ob with _|(_|cs|⟨sz,es⟩)<;>rfl
  |_=>rfl
theorem ZHo {σ:ZF}{K:List (List AV)->ZF->Prop}{k:Box K}:ZK9 σ [] (hold K k)=(K [] σ):=id rfl
theorem ZGA {σ:ZF}{x:List AV}{r:List (List AV)}{K:List (List AV)->ZF->Prop}{k:Box K}:ZK9 σ (x::r) (hold K k)=(frz σ x (hold (fun e' σ'=>ZK9 σ' r (hold (fun r' σ''=>K (e'::r') σ'') .mk)) .mk)):=id rfl
theorem ZNb {σ:ZF}{x:AV}{K:AV->ZF->Prop}{k:Box K}:ZF7 σ x (hold K k)=(match x with
  | .agg cs=>frz σ cs (hold (fun cs' σ'=>K (.agg cs') σ') .mk)
  | .own l n=>(match σ[l]? with
    |some (.elems _ es)=>chk (es.length=n) (hold (chk (Zd es) (hold (K (.arr es) (σ.set l .dead)) .mk)) .mk)
    |_=>False)
  | .lit v=>K (.lit v) σ
  | .arr v=>K (.arr v) σ
  |y=>K y σ):=by cases x<;>rfl
theorem ZHr {σ:ZF}{K:List AV->ZF->Prop}{k:Box K}:ZJC σ [] (hold K k)=(K [] σ):=rfl
theorem ZGC {σ:ZF}{x:AV}{r:List AV}{K:List AV->ZF->Prop}{k:Box K}:ZJC σ (x::r) (hold K k)=(ZF7 σ x (hold (fun x' σ'=>ZJC σ' r (hold (fun r' σ''=>K (x'::r') σ'') .mk)) .mk)):=rfl
theorem ZNa {σ:ZF}{x:AV}{K:AV->ZF->Prop}{k:Box K}:ZKP σ x (hold K k)=(match x with
  | .tup xs=>ZJC σ xs (hold (fun xs' σ'=>K (.tup xs') σ') .mk)
  | .lit v=>K (.lit v) σ
  | .arr v=>K (.arr v) σ
  |y=>ZF7 σ y (hold K .mk)):=by cases x<;>rfl
theorem ZHt {σ:ZF}{fr:Frm}{K:List AV->Prop}{k:Box K}:ZBn P σ fr [] (hold K k)=(K []):=rfl
theorem ZHs {σ:ZF}{fr:Frm}{t:Nat}{r:List ResultVar}{K:List AV->Prop}{k:Box K}:ZBn P σ fr (.tmp t::r) (hold K k)=(ZBn P σ fr r (hold (fun xs=>K (lk fr t::xs)) .mk)):=rfl
theorem ZGD {σ:ZF}{fr:Frm}{a:Nat}{t:TypeId}{r:List ResultVar}{K:List AV->Prop}{k:Box K}:ZBn P σ fr (.cell a t::r) (hold K k)=(ZBP P t σ (lk fr a) (hold (fun x=>ZBn P σ fr r (hold (fun xs=>K (x::xs)) .mk)) .mk)):=rfl
theorem ZGE {place:Nat->Option (Nat×Nat)}{σ:ZF}{cs:List AV}{K:List AV->Prop}{k:Box K}:ZBE place σ cs [] (hold K k)=(K cs):=rfl
theorem ZE5 {place : Nat -> Option (Nat × Nat)}{σ : ZF}{cs : List AV} {i : Nat} {x : AV} {rest : List (Nat × AV)}{K : List AV -> Prop} {k : Box K} : ZBE place σ cs ((i, x) :: rest) (hold K k) = (match place i with
    |some (off,size)=>AV.cellsK σ x (hold (fun new=>chk (new.length=size) (hold (wrE cs off new (hold (fun cs'=>ZBE place σ cs' rest (hold K .mk)) .mk)) .mk)) .mk)
    |none=>False):=rfl
theorem ZKY {σ:ZF}{t:TypeId}{ps:List (Nat×AV)}{K:AV->ZF->Prop}{k:Box K}:ZBY P t σ ps (hold K k)=(match Ze P t with
  |some ⟨.struct offs,_,z⟩=>chk ((∀p,p∈offs->p.2≠0)) (hold (chk (z≠[]) (hold (ZBE (fun i=>offs[i]?) σ (z.map .lit) ps (hold (fun cs=>bfrz σ cs (hold (fun cs' σ'=>K (.agg cs') σ') .mk)) .mk)) .mk)) .mk)
  |_=>False):=rfl
theorem ZNc {σ:ZF}{cs:List AV}{K:List AV->ZF->Prop}{k:Box K}:bfrz σ cs (hold K k)=(if σ.any isM=true then K cs σ else frz σ cs (hold K .mk)):=rfl
theorem ZI8 {n:Nat}{es:List (List AV)}:isM (.elems n es)=decide (n=0):=by cases n<;>rfl
theorem ZI9 {cs:List AV}:isM (.cells cs)=false:=rfl
theorem ZKG :isM .dead=false:=rfl
theorem ZKF {xs:List AV}{vs:List Value}:isM (.pack xs vs)=true:=rfl
theorem ZHf {n:Nat}{es:List (List AV)}:ZNN (.elems n es)=false:=rfl
theorem ZHg {cs:List AV}:ZNN (.cells cs)=false:=rfl
theorem ZI7 :ZNN .dead=false:=rfl
theorem ZI6 {xs:List AV}{vs:List Value}:ZNN (.pack xs vs)=true:=rfl
theorem ZE7 {σ:ZF}{sz j:Nat}{K:List (List AV)->Prop}{k:Box K}:ZBX σ sz j [] (hold K k)=(K []):=rfl
theorem ZER {σ:ZF}{sz j i:Nat}{x:AV}{rest:List (Nat×AV)}{K:List (List AV)->Prop}{k:Box K}:ZBX σ sz j ((i,x)::rest) (hold K k)=(chk (i=j) (hold (AV.cellsK σ x (hold (fun e=>chk (e.length=sz) (hold (ZBX σ sz (j+1) rest (hold (fun es=>K (e.map (nzs σ)::es)) .mk)) .mk)) .mk)) .mk)):=rfl
theorem ZES {σ:ZF}{t:TypeId}{len:Nat}{ps:List (Nat×AV)}{K:AV->ZF->Prop}{k:Box K}:Zw P B t σ len ps (hold K k)=(match Ze P t with
  |some ⟨.slice sz _ z,_,_⟩=>chk (ps.length=len) (hold (chk (len*sz<=16777216) (hold (chk (len<=B) (hold (chk (z.length=sz) (hold (chk (sz≠0) (hold (ZBX σ sz 0 ps (hold (fun es=>ZK9 σ es (hold (fun es' σ'=>K (.own σ'.length len) (σ'++[.elems sz es'])) .mk)) .mk)) .mk)) .mk)) .mk)) .mk)) .mk)
  |_=>False):=rfl
theorem ZE3 {σ:ZF}{t:TypeId}{l c:AV}{K:AV->ZF->Prop}{k:Box K}:ZAG P B t σ l c (hold K k)=(match Ze P t,l,c with
  |some ⟨.slice sz bytes z,_,_⟩,.lit (.int _ n),.lit (.int _ n')=>chk (n=n') (hold (chk (0<=n) (hold (chk (n<=9223372036854775807) (hold (chk (bytes*n<=281474976710656) (hold (chk (n.toNat<=B) (hold (chk (z.length=sz) (hold (chk (sz≠0) (hold (K (.own σ.length n.toNat) (σ++[.elems sz (List.replicate n.toNat ((z.map .lit).map (nzs σ)))])) .mk)) .mk)) .mk)) .mk)) .mk)) .mk)) .mk)
  |_,_,_=>False):=rfl
theorem ZKS {x:Option AV}{d:Nat}{K:Nat->Prop}{k:Box K}:ZAa x d (hold K k)=(match x with
  |none=>K d
  |some (.lit (.int _ n))=>chk (0<=n) (hold (K n.toNat) .mk)
  |_=>False):=rfl
theorem ZKW {σ:ZF}{t:TypeId}{x:AV}{lo hi mx:Option AV}{K:AV->ZF->Prop}{k:Box K}:ZBW P t σ x lo hi mx (hold K k)=(match x,mx with
  | .lit (.string s),none=>chk (P.underlying t=some .string) (hold (
    ZAa lo 0 (hold (fun l=>ZAa hi s.size (hold (fun h=>chk (l<=h) (hold (chk (h<=s.size) (hold (K (.lit (.string (s.extract l h))) σ) .mk)) .mk)) .mk)) .mk)) .mk)
  | .arr es,none=>match Ze P t with
    |some ⟨.slice sz _ _,_,_⟩=>chk (ZHc sz es) (hold (
      ZAa lo 0 (hold (fun l=>ZAa hi es.length (hold (fun h=>chk (l<=h) (hold (chk (h<=es.length) (hold (K (.arr ((es.drop l).take (h-l))) σ) .mk)) .mk)) .mk)) .mk)) .mk)
    |_=>False
  | .own l n,none=>match lo,Ze P t with
    |none,some ⟨.slice _ _ _,_,_⟩=>ZAa hi n (hold (fun h=>chk (h<=n) (hold (K (.pre l n h) σ) .mk)) .mk)
    |_,_=>False
  |_,_=>False):=rfl
theorem ZMD {σ:ZF}{x:AV}:ZBd σ x=(match x with
  | .rptr _ _=>True
  | .ptr l _=>match σ[l]? with
    |some (.cells _)=>True
    |_=>False
  | .eptr l k _ _=>match σ[l]? with
    |some (.elems _ es)=>es.length=k/\es≠[]
    |_=>False
  |_=>False):=rfl
end
attribute [simp ↓] ZEY ZDa ZKe ZJq ZOC ZMo ZEB ZHE ZFg ZNP ZKH ZNS ZOQ ZNT ZL2 ZNQ ZNR ZOR ZJo ZN8 ZMk ZKf ZOg ZNt ZOF ZJy ZJB ZHj ZF5 ZF4 ZND ZMs ZJ5 ZJs ZNC ZMr ZLs ZLY ZOH ZOD ZLq ZLW ZEp ZEk ZNE ZMt ZLn ZLT ZHT ZHG ZLr ZLX ZNB ZMq ZIr ZIR ZHU ZHH ZFu ZFh ZLo ZLU ZFw ZFj ZFv ZFi ZLp ZLV ZIq ZIQ ZIs ZIS ZNF ZMu ZL1 ZL0 ZHi ZHh ZL3 ZKI ZHl ZHk ZEx ZNi ZKZ ZNh ZMP ZOd ZMN ZE8 ZNj ZMK ZHu ZMO ZNg ZJJ ZHv ZGG ZML ZGI ZGH ZMM ZJI ZOc ZKa ZOb ZKU ZOY ZOX ZOZ ZME ZOW ZOV ZKV ZE6 ZE4 ZKX ZNd ZKT ZJG ZNe ZOa ZMF ZJF ZHp ZHo ZGA ZNb ZHr ZGC ZNa ZHt ZHs ZGD ZGE ZE5 ZKY ZNc ZE7 ZER ZES ZE3 ZKS ZKW ZMD
attribute [simp] ZG8 ZFX ZN4 u8s ZA0
attribute [simp] ZI8 ZI9 ZKG ZKF ZHf ZHg ZI7 ZI6 nzs
attribute [simp] nz AV.le AV.le.les ZNY ZD8 Blk.le pack ZEl Blk.closed ZAA ZNZ AV.bnd AV.bnd.bnds ev ZDG lk AV.adv Sh.isAgg ZAH
theorem ZNp {n:Nat}{v:Value}:AV.closed n (.lit v)↔True:=by simp[AV.closed]
theorem ZNq {n:Nat}{es:List (List AV)}:AV.closed n (.arr es)↔True:=by simp[AV.closed]
theorem ZMR {n:Nat}{e:List AV}{o:Nat}:AV.closed n (.rptr e o)↔True:=by simp[AV.closed]
theorem ZNo {n l k:Nat}:AV.closed n (.own l k)↔l<n:=by simp[AV.closed]
theorem ZNn {n l k:Nat}:AV.closed n (.ptr l k)↔l<n:=by simp[AV.closed]
theorem ZNr {n:Nat}{cs:List AV}:AV.closed n (.agg cs)↔AV.closed.closeds n cs:=by simp[AV.closed]
theorem ZNm {n:Nat}{cs:List AV}:AV.closed n (.tup cs)↔AV.closed.closeds n cs:=by simp[AV.closed]
theorem ZOf {n:Nat}{f:Fn}{xs ys:List AV}:AV.closed n (.fn f xs ys)↔AV.closed.closeds n xs/\AV.closed.closeds n ys:=by simp[AV.closed]
theorem ZMQ {n:Nat}:AV.closed.closeds n []↔True:=by simp[AV.closed.closeds]
theorem ZKc {n:Nat}{x:AV}{r:List AV}:AV.closed.closeds n (x::r)↔x.closed n/\AV.closed.closeds n r:=by simp[AV.closed.closeds]
theorem ZMx {v:Value}:AV.pure (.lit v)↔True:=by simp[AV.pure]
theorem ZMy {es:List (List AV)}:AV.pure (.arr es)↔True:=by simp[AV.pure]
theorem ZLa {e:List AV}{o:Nat}:AV.pure (.rptr e o)↔True:=by simp[AV.pure]
theorem ZMz {cs:List AV}:AV.pure (.agg cs)↔AV.pure.pures cs:=by simp[AV.pure]
theorem ZMw {cs:List AV}:AV.pure (.tup cs)↔AV.pure.pures cs:=by simp[AV.pure]
theorem ZOE {f:Fn}{xs ys:List AV}:AV.pure (.fn f xs ys)↔AV.pure.pures xs/\AV.pure.pures ys:=by simp[AV.pure]
theorem ZLZ :AV.pure.pures []↔True:=by simp[AV.pure.pures]
theorem ZJt {x:AV}{r:List AV}:AV.pure.pures (x::r)↔x.pure/\AV.pure.pures r:=by simp[AV.pure.pures]
theorem ZJ3 {b:Bool}:ZDX (.bool b)↔True:=by simp[ZDX]
theorem ZLj {k:IntKind}{b:Int}:ZDX (.int k b)↔True:=by simp[ZDX]
theorem ZHP {b:ByteArray}:ZDX (.string b)↔True:=by simp[ZDX]
theorem ZIn {a:Option Addr}{l c:Nat}:ZDX (.slice a l c)↔True:=by simp[ZDX]
theorem ZFr {a:Option Addr}:ZDX (.pointer a)↔True:=by simp[ZDX]
theorem ZLi {a:Option Nat}:ZDX (.map a)↔True:=by simp[ZDX]
theorem ZFs :ZDX .nilFunc↔True:=by simp[ZDX]
theorem ZM9 {σ:ZF}{v:Value}:ok1 σ (.lit v)↔ZDX v:=by simp[ok1]
theorem ZNA {σ:ZF}{es:List (List AV)}:ok1 σ (.arr es)↔True:=by simp[ok1]
theorem ZLl {σ:ZF}{e:List AV}{o:Nat}:ok1 σ (.rptr e o)↔True:=by simp[ok1]
theorem ZOG {σ:ZF}{f:Fn}{xs ys:List AV}:ok1 σ (.fn f xs ys)↔True:=by simp[ok1]
theorem ZM8 {σ:ZF}{l n:Nat}:ok1 σ (.own l n)=(match σ[l]? with|some (.elems _ es)=>es.length=n|_=>False):=rfl
theorem ZM7 {σ:ZF}{l n:Nat}:ok1 σ (.ptr l n)=(match σ[l]? with|some (.cells _)=>True|_=>False):=rfl
theorem ZLm {σ:ZF}{l n i o:Nat}:ok1 σ (.eptr l n i o)=(match σ[l]? with|some (.elems _ es)=>es.length=n/\es≠[]|_=>False):=rfl
theorem ZLk {σ:ZF}:Zh σ []↔True:=by simp[Zh]
theorem ZJ4 {σ:ZF}{x:AV}{r:List AV}:Zh σ (x::r)↔ok1 σ x/\Zh σ r:=by simp[Zh]
attribute [simp] ZNp ZNq ZMR ZNo ZNn ZNr ZNm ZOf ZMQ ZKc ZMx ZMy ZLa ZMz ZMw ZOE ZLZ ZJt ZJ3 ZLj ZHP ZIn ZFr ZLi ZFs ZM9 ZNA ZLl ZOG ZM8 ZM7 ZLm ZLk ZJ4
end Go.Vl
