/- Part. -/
import Derived.Test.YtodkbabdaoeooaaGreatDoorVlStep
set_option linter.all false
open List renaming toArray->zA,map_cons->zB,map_nil->zC
namespace Go.Vl
open Go Go.RowKit
open AV renaming closed->zD,pure->zE,cellsK->zF
section
variable {P : Program} {B nb N : Nat}
theorem ZP8 {Q:Exit->ASt->Prop}{q:Box Q}{st:ASt}:awp P B nb N .skip st (hold Q q)=(Q .normal st):=rfl
theorem ZMM {Q:Exit->ASt->Prop}{q:Box Q}{st:ASt}{id:Nat}{l:List Oper}:awp P B nb N (.region id (zA l) false) st (hold Q q)=(ZIg P B N (hold (zA l) .mk) l st (hold (Q .normal) .mk)):=by simp only[awp,Bool.false_eq_true,if_false,hold]
theorem ZQB {Q:Exit->ASt->Prop}{q:Box Q}{st:ASt}{id:Nat}{ops:Array Oper}:awp P B nb N (.region id ops true) st (hold Q q)=(ADraw P B nb N (hold ops .mk) st (hold (Q .normal) .mk)):=by simp only[awp,if_true,hold]
theorem ZRM {Q:Exit->ASt->Prop}{q:Box Q}{st:ASt}{a b:Code}:awp P B nb N (.seq a b) st (hold Q q)=(awp P B nb N a st (hold (ZQo P B nb N b Q) .mk)):=by simp only[hold];rw[awp];congr
theorem ZQC {Q : Exit -> ASt -> Prop} {q : Box Q}{st : ASt}{c : Operand} {a b : Code} : awp P B nb N (.cond c a b) st (hold Q q) = (match ev st.fr c with
    | .lit (.bool v)=>abr (v=true) (hold (awp P B nb N a st (hold Q .mk)) .mk) (hold (awp P B nb N b st (hold Q .mk)) .mk)
    |_=>False):=by
  simp only[awp,hold]
  generalize ev st.fr c=v
  cases v<;>try rfl
  next v=>cases v<;>first|exact ZHx.symm|rfl
theorem ZOI {Q:Exit->ASt->Prop}{q:Box Q}{st:ASt}{id:Nat}{c:Code}:awp P B nb N (.block id c) st (hold Q q)=(awp P B nb N c st (hold (ZIc id Q) .mk)):=by simp only[hold];rw[awp];congr
theorem ZP9 {Q:Exit->ASt->Prop}{q:Box Q}{st:ASt}{c:Code}:awp P B nb N (.loop c) st (hold Q q)=(ALoop P B nb N (hold c .mk) st (hold Q .mk)):=rfl
theorem ZQA {Q:Exit->ASt->Prop}{q:Box Q}{st:ASt}{i:Nat}:awp P B nb N (.exit i) st (hold Q q)=(Q (.exit i) st):=rfl
theorem ZRN {Q:Exit->ASt->Prop}{q:Box Q}{st:ASt}:awp P B nb N .ret st (hold Q q)=(Q .ret st):=rfl
theorem ZLs {c:Code}{bc:Box c}{Q:Exit->ASt->Prop}{bQ:Box Q}{st:ASt}:ZFo P B nb N (hold c bc) (hold Q bQ) .normal st=Again P B nb N (hold c .mk) (hold Q .mk) st:=rfl
theorem ZQ3 {c:Code}{bc:Box c}{Q:Exit->ASt->Prop}{bQ:Box Q}{st:ASt}:ZFo P B nb N (hold c bc) (hold Q bQ) .ret st=Leave B nb N (hold Q .mk) .ret st:=rfl
theorem ZPL {c:Code}{bc:Box c}{Q:Exit->ASt->Prop}{bQ:Box Q}{i:Nat}{st:ASt}:ZFo P B nb N (hold c bc) (hold Q bQ) (.exit i) st=Leave B nb N (hold Q .mk) (.exit i) st:=rfl
theorem ZLq {Q:Exit->ASt->Prop}{st:ASt}{b:Code}:ZQo P B nb N b Q .normal st=(awp P B nb N b st (hold Q .mk)):=rfl
theorem ZQz {Q:Exit->ASt->Prop}{st:ASt}{b:Code}:ZQo P B nb N b Q .ret st=(Q .ret st):=rfl
theorem ZPI {Q:Exit->ASt->Prop}{st:ASt}{b:Code}{i:Nat}:ZQo P B nb N b Q (.exit i) st=(Q (.exit i) st):=rfl
theorem ZMm {Q:Exit->ASt->Prop}{st:ASt}{i:Nat}:ZIc i Q .normal st=(Q .normal st):=rfl
theorem ZRe {Q:Exit->ASt->Prop}{st:ASt}{i:Nat}:ZIc i Q .ret st=(Q .ret st):=rfl
theorem ZQd {Q:Exit->ASt->Prop}{st:ASt}{i j:Nat}:ZIc i Q (.exit j) st=(if j=i then Q .normal st else Q (.exit j) st):=rfl
theorem ZQ6 {fn:Func}{K:AV->ZE->Prop}{st:ASt}:ZA2 P fn K .ret st=(ZD7 P st.σ st.fr fn.results.toList (hold (fun xs=>ZKy st.σ (pack xs) (hold K .mk)) .mk)):=rfl
theorem ZL1 {fn:Func}{K:AV->ZE->Prop}{st:ASt}:ZA2 P fn K .normal st=(ZD7 P st.σ st.fr fn.results.toList (hold (fun xs=>ZKy st.σ (pack xs) (hold K .mk)) .mk)):=rfl
theorem ZKv {K:ASt->Prop}{k:Box K}{st:ASt}{ops:Array Oper}:ZIg P B N ops [] st (hold K k)=(K st):=rfl
theorem ZJS {K:ASt->Prop}{k:Box K}{st:ASt}{ops:Array Oper}{bo:Box ops}{o:Oper}{rest:List Oper}:ZIg P B N (hold ops bo) (o::rest) st (hold K k)=(ZAp (hold ops .mk) st.fr o.guard (hold (aop P B N o st (hold (fun st'=>ZIg P B N (hold ops .mk) rest st' (hold K .mk)) .mk)) .mk) (hold (ZAL N o.dst (.lit undef) st.fr st.σ (hold (fun st'=>ZIg P B N (hold ops .mk) rest st' (hold K .mk)) .mk)) .mk)):=rfl
theorem ZHR {ops:Array Oper}{bo:Box ops}{fr:Frm}{y n:Prop}{b:Box y}{b':Box n}:ZAp (hold ops bo) fr none (hold y b) (hold n b')=(y):=rfl
def ZJ1 (w:Bool)(v:AV)(y n:Prop):Prop:=match v with
  | .lit (.bool b)=>abr (b=w) (hold y .mk) (hold n .mk)
  | .lit _=>n
  |_=>False
theorem ZIo {w b:Bool}{y n:Prop}{k:Box y}{k':Box n}:ZJ1 w (.lit (.bool b)) (hold y k) (hold n k')=abr (b=w) (hold y .mk) (hold n .mk):=rfl
theorem ZGr {w:Bool}{y n:Prop}{k:Box y}{k':Box n}:ZJ1 w (.lit undef) (hold y k) (hold n k')=n:=rfl
theorem ZHQ {ops : Array Oper} {bo : Box ops}{fr : Frm} {j : Nat} {w : Bool} {y n : Prop} {b : Box y} {b' : Box n} : ZAp (hold ops bo) fr (some (j, w)) (hold y b) (hold n b') = (match (ops[j]?).bind (·.dst) with
      |none=>False
      |some d=>ZJ1 w (lk fr d) (hold y .mk) (hold n .mk)):=by
  simp only[ZAp,hold]
  generalize(ops[j]?).bind (fun x=>x.dst)=od
  cases od with
  |none=>rfl
  |some d=>
    simp only[]
    generalize lk fr d=v
    cases v<;>try rfl
    next v=>cases v<;>first|(simp only[yb,ZJ1,Option.some.injEq];exact ZHx.symm)|(simp[yb,ZJ1,hold];done)|rfl
theorem ZPl {x:Operand}{d:Option Nat}{t:TypeId}{p:String}{es:Array Edge}{g:Option (Nat×Bool)}{st:ASt}{K:ASt->Prop}{k:Box K}:aop P B N ⟨d,.move x,t,p,es,g⟩ st (hold K k)=(aef P B (.move x) (ev st.fr) st.σ (hold (fun r σ'=>ZAL N d r st.fr σ' (hold K .mk)) .mk)):=rfl
theorem ZPP {x:Operand}{fr:Frm}{σ:ZE}{K:AV->Prop}{k:Box K}:ZC9 P B (.move x) fr σ (hold K k)=(aef P B (.move x) (ev fr) σ (hold (fun r σ'=>chk (σ'=σ) (hold (K r) .mk)) .mk)):=rfl
theorem ZL8 {x:Operand}{d:Option Nat}{t:TypeId}{p:String}{es:Array Edge}{g:Option (Nat×Bool)}{st:ASt}{K:ASt->Prop}{k:Box K}:aop P B N ⟨d,.assign x,t,p,es,g⟩ st (hold K k)=(aef P B (.assign x) (ev st.fr) st.σ (hold (fun r σ'=>ZAL N d r st.fr σ' (hold K .mk)) .mk)):=rfl
theorem ZLu {x:Operand}{fr:Frm}{σ:ZE}{K:AV->Prop}{k:Box K}:ZC9 P B (.assign x) fr σ (hold K k)=(aef P B (.assign x) (ev fr) σ (hold (fun r σ'=>chk (σ'=σ) (hold (K r) .mk)) .mk)):=rfl
theorem ZPk {c a b:Operand}{d:Option Nat}{t:TypeId}{p:String}{es:Array Edge}{g:Option (Nat×Bool)}{st:ASt}{K:ASt->Prop}{k:Box K}:aop P B N ⟨d,.pick c a b,t,p,es,g⟩ st (hold K k)=(aef P B (.pick c a b) (ev st.fr) st.σ (hold (fun r σ'=>ZAL N d r st.fr σ' (hold K .mk)) .mk)):=rfl
theorem ZPO {c a b:Operand}{fr:Frm}{σ:ZE}{K:AV->Prop}{k:Box K}:ZC9 P B (.pick c a b) fr σ (hold K k)=(aef P B (.pick c a b) (ev fr) σ (hold (fun r σ'=>chk (σ'=σ) (hold (K r) .mk)) .mk)):=rfl
theorem ZN8 {e:TypeId}{d:Option Nat}{t:TypeId}{p:String}{es:Array Edge}{g:Option (Nat×Bool)}{st:ASt}{K:ASt->Prop}{k:Box K}:aop P B N ⟨d,.alloc e,t,p,es,g⟩ st (hold K k)=(aef P B (.alloc e) (ev st.fr) st.σ (hold (fun r σ'=>ZAL N d r st.fr σ' (hold K .mk)) .mk)):=rfl
theorem ZNn {e:TypeId}{fr:Frm}{σ:ZE}{K:AV->Prop}{k:Box K}:ZC9 P B (.alloc e) fr σ (hold K k)=(aef P B (.alloc e) (ev fr) σ (hold (fun r σ'=>chk (σ'=σ) (hold (K r) .mk)) .mk)):=rfl
theorem ZQ8 {e:TypeId}{x:Operand}{d:Option Nat}{t:TypeId}{p:String}{es:Array Edge}{g:Option (Nat×Bool)}{st:ASt}{K:ASt->Prop}{k:Box K}:aop P B N ⟨d,.box e x,t,p,es,g⟩ st (hold K k)=(aef P B (.box e x) (ev st.fr) st.σ (hold (fun r σ'=>ZAL N d r st.fr σ' (hold K .mk)) .mk)):=rfl
theorem ZQ4 {e:TypeId}{x:Operand}{fr:Frm}{σ:ZE}{K:AV->Prop}{k:Box K}:ZC9 P B (.box e x) fr σ (hold K k)=(aef P B (.box e x) (ev fr) σ (hold (fun r σ'=>chk (σ'=σ) (hold (K r) .mk)) .mk)):=rfl
theorem ZN6 {ty:TypeId}{parts:Array (Nat×Operand)}{d:Option Nat}{t:TypeId}{p:String}{es:Array Edge}{g:Option (Nat×Bool)}{st:ASt}{K:ASt->Prop}{k:Box K}:aop P B N ⟨d,.build ty parts,t,p,es,g⟩ st (hold K k)=(aef P B (.build ty parts) (ev st.fr) st.σ (hold (fun r σ'=>ZAL N d r st.fr σ' (hold K .mk)) .mk)):=rfl
theorem ZNl {ty:TypeId}{parts:Array (Nat×Operand)}{fr:Frm}{σ:ZE}{K:AV->Prop}{k:Box K}:ZC9 P B (.build ty parts) fr σ (hold K k)=(aef P B (.build ty parts) (ev fr) σ (hold (fun r σ'=>chk (σ'=σ) (hold (K r) .mk)) .mk)):=rfl
theorem ZF0 {ty:TypeId}{len:Nat}{parts:Array (Nat×Operand)}{d:Option Nat}{t:TypeId}{p:String}{es:Array Edge}{g:Option (Nat×Bool)}{st:ASt}{K:ASt->Prop}{k:Box K}:aop P B N ⟨d,.buildSlice ty len parts,t,p,es,g⟩ st (hold K k)=(aef P B (.buildSlice ty len parts) (ev st.fr) st.σ (hold (fun r σ'=>ZAL N d r st.fr σ' (hold K .mk)) .mk)):=rfl
theorem ZFv {ty:TypeId}{len:Nat}{parts:Array (Nat×Operand)}{fr:Frm}{σ:ZE}{K:AV->Prop}{k:Box K}:ZC9 P B (.buildSlice ty len parts) fr σ (hold K k)=(aef P B (.buildSlice ty len parts) (ev fr) σ (hold (fun r σ'=>chk (σ'=σ) (hold (K r) .mk)) .mk)):=rfl
theorem ZPm {ty:TypeId}{x:Operand}{d:Option Nat}{t:TypeId}{p:String}{es:Array Edge}{g:Option (Nat×Bool)}{st:ASt}{K:ASt->Prop}{k:Box K}:aop P B N ⟨d,.load ty x,t,p,es,g⟩ st (hold K k)=(aef P B (.load ty x) (ev st.fr) st.σ (hold (fun r σ'=>ZAL N d r st.fr σ' (hold K .mk)) .mk)):=rfl
theorem ZPQ {ty:TypeId}{x:Operand}{fr:Frm}{σ:ZE}{K:AV->Prop}{k:Box K}:ZC9 P B (.load ty x) fr σ (hold K k)=(aef P B (.load ty x) (ev fr) σ (hold (fun r σ'=>chk (σ'=σ) (hold (K r) .mk)) .mk)):=rfl
theorem ZN3 {ty:TypeId}{x v:Operand}{d:Option Nat}{t:TypeId}{p:String}{es:Array Edge}{g:Option (Nat×Bool)}{st:ASt}{K:ASt->Prop}{k:Box K}:aop P B N ⟨d,.store ty x v,t,p,es,g⟩ st (hold K k)=(aef P B (.store ty x v) (ev st.fr) st.σ (hold (fun r σ'=>ZAL N d r st.fr σ' (hold K .mk)) .mk)):=rfl
theorem ZNi {ty:TypeId}{x v:Operand}{fr:Frm}{σ:ZE}{K:AV->Prop}{k:Box K}:ZC9 P B (.store ty x v) fr σ (hold K k)=(aef P B (.store ty x v) (ev fr) σ (hold (fun r σ'=>chk (σ'=σ) (hold (K r) .mk)) .mk)):=rfl
theorem ZJE {x:Operand}{d:Option Nat}{t:TypeId}{p:String}{es:Array Edge}{g:Option (Nat×Bool)}{st:ASt}{K:ASt->Prop}{k:Box K}:aop P B N ⟨d,.nilCheck x,t,p,es,g⟩ st (hold K k)=(aef P B (.nilCheck x) (ev st.fr) st.σ (hold (fun r σ'=>ZAL N d r st.fr σ' (hold K .mk)) .mk)):=rfl
theorem ZI1 {x:Operand}{fr:Frm}{σ:ZE}{K:AV->Prop}{k:Box K}:ZC9 P B (.nilCheck x) fr σ (hold K k)=(aef P B (.nilCheck x) (ev fr) σ (hold (fun r σ'=>chk (σ'=σ) (hold (K r) .mk)) .mk)):=rfl
theorem ZN7 {op:BinOp}{ty:TypeId}{x y:Operand}{ty2:TypeId}{d:Option Nat}{t:TypeId}{p:String}{es:Array Edge}{g:Option (Nat×Bool)}{st:ASt}{K:ASt->Prop}{k:Box K}:aop P B N ⟨d,.binOp op ty x y ty2,t,p,es,g⟩ st (hold K k)=(aef P B (.binOp op ty x y ty2) (ev st.fr) st.σ (hold (fun r σ'=>ZAL N d r st.fr σ' (hold K .mk)) .mk)):=rfl
theorem ZNm {op:BinOp}{ty:TypeId}{x y:Operand}{ty2:TypeId}{fr:Frm}{σ:ZE}{K:AV->Prop}{k:Box K}:ZC9 P B (.binOp op ty x y ty2) fr σ (hold K k)=(aef P B (.binOp op ty x y ty2) (ev fr) σ (hold (fun r σ'=>chk (σ'=σ) (hold (K r) .mk)) .mk)):=rfl
theorem ZPj {op:UnOp}{ty:TypeId}{x:Operand}{d:Option Nat}{t:TypeId}{p:String}{es:Array Edge}{g:Option (Nat×Bool)}{st:ASt}{K:ASt->Prop}{k:Box K}:aop P B N ⟨d,.unOp op ty x,t,p,es,g⟩ st (hold K k)=(aef P B (.unOp op ty x) (ev st.fr) st.σ (hold (fun r σ'=>ZAL N d r st.fr σ' (hold K .mk)) .mk)):=rfl
theorem ZPN {op:UnOp}{ty:TypeId}{x:Operand}{fr:Frm}{σ:ZE}{K:AV->Prop}{k:Box K}:ZC9 P B (.unOp op ty x) fr σ (hold K k)=(aef P B (.unOp op ty x) (ev fr) σ (hold (fun r σ'=>chk (σ'=σ) (hold (K r) .mk)) .mk)):=rfl
theorem ZKe {ty ty2:TypeId}{x:Operand}{d:Option Nat}{t:TypeId}{p:String}{es:Array Edge}{g:Option (Nat×Bool)}{st:ASt}{K:ASt->Prop}{k:Box K}:aop P B N ⟨d,.convert ty ty2 x,t,p,es,g⟩ st (hold K k)=(aef P B (.convert ty ty2 x) (ev st.fr) st.σ (hold (fun r σ'=>ZAL N d r st.fr σ' (hold K .mk)) .mk)):=rfl
theorem ZKD {ty ty2:TypeId}{x:Operand}{fr:Frm}{σ:ZE}{K:AV->Prop}{k:Box K}:ZC9 P B (.convert ty ty2 x) fr σ (hold K k)=(aef P B (.convert ty ty2 x) (ev fr) σ (hold (fun r σ'=>chk (σ'=σ) (hold (K r) .mk)) .mk)):=rfl
theorem ZJF {fn:Fn}{first captured:Array Operand}{d:Option Nat}{t:TypeId}{p:String}{es:Array Edge}{g:Option (Nat×Bool)}{st:ASt}{K:ASt->Prop}{k:Box K}:aop P B N ⟨d,.makeFunc fn first captured,t,p,es,g⟩ st (hold K k)=(aef P B (.makeFunc fn first captured) (ev st.fr) st.σ (hold (fun r σ'=>ZAL N d r st.fr σ' (hold K .mk)) .mk)):=rfl
theorem ZI2 {fn:Fn}{first captured:Array Operand}{fr:Frm}{σ:ZE}{K:AV->Prop}{k:Box K}:ZC9 P B (.makeFunc fn first captured) fr σ (hold K k)=(aef P B (.makeFunc fn first captured) (ev fr) σ (hold (fun r σ'=>chk (σ'=σ) (hold (K r) .mk)) .mk)):=rfl
theorem ZHF {ty:TypeId}{len cap:Operand}{d:Option Nat}{t:TypeId}{p:String}{es:Array Edge}{g:Option (Nat×Bool)}{st:ASt}{K:ASt->Prop}{k:Box K}:aop P B N ⟨d,.makeSlice ty len cap,t,p,es,g⟩ st (hold K k)=(aef P B (.makeSlice ty len cap) (ev st.fr) st.σ (hold (fun r σ'=>ZAL N d r st.fr σ' (hold K .mk)) .mk)):=rfl
theorem ZG2 {ty:TypeId}{len cap:Operand}{fr:Frm}{σ:ZE}{K:AV->Prop}{k:Box K}:ZC9 P B (.makeSlice ty len cap) fr σ (hold K k)=(aef P B (.makeSlice ty len cap) (ev fr) σ (hold (fun r σ'=>chk (σ'=σ) (hold (K r) .mk)) .mk)):=rfl
theorem ZN4 {ty:TypeId}{x:Operand}{low high mx:Option Operand}{d:Option Nat}{t:TypeId}{p:String}{es:Array Edge}{g:Option (Nat×Bool)}{st:ASt}{K:ASt->Prop}{k:Box K}:aop P B N ⟨d,.slice ty x low high mx,t,p,es,g⟩ st (hold K k)=(aef P B (.slice ty x low high mx) (ev st.fr) st.σ (hold (fun r σ'=>ZAL N d r st.fr σ' (hold K .mk)) .mk)):=rfl
theorem ZNj {ty:TypeId}{x:Operand}{low high mx:Option Operand}{fr:Frm}{σ:ZE}{K:AV->Prop}{k:Box K}:ZC9 P B (.slice ty x low high mx) fr σ (hold K k)=(aef P B (.slice ty x low high mx) (ev fr) σ (hold (fun r σ'=>chk (σ'=σ) (hold (K r) .mk)) .mk)):=rfl
theorem ZHH {ty:TypeId}{x:Operand}{f:Nat}{d:Option Nat}{t:TypeId}{p:String}{es:Array Edge}{g:Option (Nat×Bool)}{st:ASt}{K:ASt->Prop}{k:Box K}:aop P B N ⟨d,.fieldAddr ty x f,t,p,es,g⟩ st (hold K k)=(aef P B (.fieldAddr ty x f) (ev st.fr) st.σ (hold (fun r σ'=>ZAL N d r st.fr σ' (hold K .mk)) .mk)):=rfl
theorem ZG4 {ty:TypeId}{x:Operand}{f:Nat}{fr:Frm}{σ:ZE}{K:AV->Prop}{k:Box K}:ZC9 P B (.fieldAddr ty x f) fr σ (hold K k)=(aef P B (.fieldAddr ty x f) (ev fr) σ (hold (fun r σ'=>chk (σ'=σ) (hold (K r) .mk)) .mk)):=rfl
theorem ZHG {ty:TypeId}{x i:Operand}{d:Option Nat}{t:TypeId}{p:String}{es:Array Edge}{g:Option (Nat×Bool)}{st:ASt}{K:ASt->Prop}{k:Box K}:aop P B N ⟨d,.indexAddr ty x i,t,p,es,g⟩ st (hold K k)=(aef P B (.indexAddr ty x i) (ev st.fr) st.σ (hold (fun r σ'=>ZAL N d r st.fr σ' (hold K .mk)) .mk)):=rfl
theorem ZG3 {ty:TypeId}{x i:Operand}{fr:Frm}{σ:ZE}{K:AV->Prop}{k:Box K}:ZC9 P B (.indexAddr ty x i) fr σ (hold K k)=(aef P B (.indexAddr ty x i) (ev fr) σ (hold (fun r σ'=>chk (σ'=σ) (hold (K r) .mk)) .mk)):=rfl
theorem ZN5 {ty:TypeId}{x i:Operand}{d:Option Nat}{t:TypeId}{p:String}{es:Array Edge}{g:Option (Nat×Bool)}{st:ASt}{K:ASt->Prop}{k:Box K}:aop P B N ⟨d,.index ty x i,t,p,es,g⟩ st (hold K k)=(aef P B (.index ty x i) (ev st.fr) st.σ (hold (fun r σ'=>ZAL N d r st.fr σ' (hold K .mk)) .mk)):=rfl
theorem ZNk {ty:TypeId}{x i:Operand}{fr:Frm}{σ:ZE}{K:AV->Prop}{k:Box K}:ZC9 P B (.index ty x i) fr σ (hold K k)=(aef P B (.index ty x i) (ev fr) σ (hold (fun r σ'=>chk (σ'=σ) (hold (K r) .mk)) .mk)):=rfl
theorem ZKd {x:Operand}{i:Nat}{d:Option Nat}{t:TypeId}{p:String}{es:Array Edge}{g:Option (Nat×Bool)}{st:ASt}{K:ASt->Prop}{k:Box K}:aop P B N ⟨d,.extract x i,t,p,es,g⟩ st (hold K k)=(aef P B (.extract x i) (ev st.fr) st.σ (hold (fun r σ'=>ZAL N d r st.fr σ' (hold K .mk)) .mk)):=rfl
theorem ZKC {x:Operand}{i:Nat}{fr:Frm}{σ:ZE}{K:AV->Prop}{k:Box K}:ZC9 P B (.extract x i) fr σ (hold K k)=(aef P B (.extract x i) (ev fr) σ (hold (fun r σ'=>chk (σ'=σ) (hold (K r) .mk)) .mk)):=rfl
theorem ZKf {bi:Builtin}{args:Array Operand}{ts:Array TypeId}{d:Option Nat}{t:TypeId}{p:String}{es:Array Edge}{g:Option (Nat×Bool)}{st:ASt}{K:ASt->Prop}{k:Box K}:aop P B N ⟨d,.call {callee:=.builtin bi,args:=args,argTypes:=ts},t,p,es,g⟩ st (hold K k)=(aef P B (.call {callee:=.builtin bi,args:=args,argTypes:=ts}) (ev st.fr) st.σ (hold (fun r σ'=>ZAL N d r st.fr σ' (hold K .mk)) .mk)):=rfl
theorem ZKE {bi:Builtin}{args:Array Operand}{ts:Array TypeId}{fr:Frm}{σ:ZE}{K:AV->Prop}{k:Box K}:ZC9 P B (.call {callee:=.builtin bi,args:=args,argTypes:=ts}) fr σ (hold K k)=(aef P B (.call {callee:=.builtin bi,args:=args,argTypes:=ts}) (ev fr) σ (hold (fun r σ'=>chk (σ'=σ) (hold (K r) .mk)) .mk)):=rfl
theorem ZPn {f:Operand}{args:Array Operand}{ts:Array TypeId}{d:Option Nat}{t:TypeId}{p:String}{es:Array Edge}{g:Option (Nat×Bool)}{st:ASt}{K:ASt->Prop}{k:Box K}:aop P B N ⟨d,.call {callee:=.value f,args:=args,argTypes:=ts},t,p,es,g⟩ st (hold K k)=(ZGh P B (ev st.fr f) (args.toList.map (ev st.fr)) st.σ (hold (fun r σ'=>ZAL N d r st.fr σ' (hold K .mk)) .mk)):=rfl
theorem ZPR {f:Operand}{args:Array Operand}{ts:Array TypeId}{fr:Frm}{σ:ZE}{K:AV->Prop}{k:Box K}:ZC9 P B (.call {callee:=.value f,args:=args,argTypes:=ts}) fr σ (hold K k)=(PCall P B (ev fr f) (args.toList.map (ev fr)) (hold K .mk)):=rfl
theorem ZOH {f : AV} {args : List AV} {σ : ZE}{K : AV -> ZE -> Prop} {k : Box K} : ZGh P B f args σ (hold K k) = (match f with
    | .fn (.func i) first cap=>ACall P B i (first++args++cap) σ (hold K .mk)
    |_=>False):=by
  cases f<;>try rfl
theorem ZOG {f : AV} {args : List AV}{K : AV -> Prop} {k : Box K} : PCall P B f args (hold K k) = (match f with
    | .fn (.func i) first cap=>ZEx P B i (first++args++cap) (hold K .mk)
    |_=>False):=by
  cases f<;>try rfl
theorem ZJR {r:AV}{fr:Frm}{σ:ZE}{K:ASt->Prop}{k:Box K}:ZAL N none r fr σ (hold K k)=(K ⟨fr,σ⟩):=rfl
theorem ZJQ {d:Nat}{r:AV}{fr:Frm}{σ:ZE}{K:ASt->Prop}{k:Box K}(h:d<N):ZAL N (some d) r fr σ (hold K k)=K ⟨(d,r)::fr,σ⟩:=by simp[ZAL,hold,h]
theorem ZOJ {ops:Array Oper}{fr:Frm}{σ:ZE}{K:Frm->Prop}{k:Box K}:aP P B N ops [] fr σ (hold K k)=(K fr):=rfl
theorem ZMN {ops:Array Oper}{bo:Box ops}{o:Oper}{rest:List Oper}{fr:Frm}{σ:ZE}{K:Frm->Prop}{k:Box K}:aP P B N (hold ops bo) (o::rest) fr σ (hold K k)=(ZAp (hold ops .mk) fr o.guard (hold (ZC9 P B o.op fr σ (hold (fun r=>ZGm N o.dst (hold (aP P B N (hold ops .mk) rest (ZAa o.dst r fr) σ (hold K .mk)) .mk)) .mk)) .mk) (hold (ZGm N o.dst (hold (aP P B N (hold ops .mk) rest (ZAa o.dst (.lit undef) fr) σ (hold K .mk)) .mk)) .mk)):=by rw[aP];rfl
theorem ZJU {K:Prop}{k:Box K}:ZGm N none (hold K k)=(K):=by simp[ZGm,dOk,hold]
theorem ZJT {d:Nat}{K:Prop}{k:Box K}(h:d<N):ZGm N (some d) (hold K k)=K:=by simp[ZGm,dOk,hold,h]
theorem ZGD {α:Type}{l:List α}:(zA l).toList=(l):=rfl
theorem ZQS {x:Operand}{ρ:Operand->AV}{σ:ZE}{K:AV->ZE->Prop}{k:Box K}:aef P B (.move x) ρ σ (hold K k)=(K (ρ x) σ):=rfl
theorem ZMh {x:Operand}{ρ:Operand->AV}{σ:ZE}{K:AV->ZE->Prop}{k:Box K}:aef P B (.assign x) ρ σ (hold K k)=(K (ρ x) σ):=rfl
theorem ZQR {c a b : Operand}{ρ : Operand -> AV} {σ : ZE}{K : AV -> ZE -> Prop} {k : Box K} : aef P B (.pick c a b) ρ σ (hold K k) = (match ρ c with
    | .lit (.bool v)=>abr (v=true) (hold (K (ρ a) σ) .mk) (hold (K (ρ b) σ) .mk)
    |_=>False):=by
  simp only[aef,hold]
  generalize ρ c=v
  cases v<;>try rfl
  next v=>cases v<;>first|(rename_i v;cases v<;>simp[abr];done)|rfl
theorem ZOm {t : TypeId}{ρ : Operand -> AV} {σ : ZE}{K : AV -> ZE -> Prop} {k : Box K} : aef P B (.alloc t) ρ σ (hold K k) = (match Zl P t with
    |some i=>chk (i.zero≠[]) (hold (K (.ptr σ.length 0) (σ++[ZBB t i.zero])) .mk)
    |none=>False):=rfl
theorem ZQh {t:TypeId}{k:IntKind}{n:Int}{r:List Value}:ZBB t (.int k n::r)=.cells ((.int k n::r).map .lit):=rfl
theorem ZOx {t:TypeId}{b:Bool}{r:List Value}:ZBB t (.bool b::r)=.cells ((.bool b::r).map .lit):=rfl
theorem ZLX {t:TypeId}{s:ByteArray}{r:List Value}:ZBB t (.string s::r)=.cells ((.string s::r).map .lit):=rfl
theorem ZMt {t:TypeId}{a:Option Addr}{n c:Nat}{r:List Value}:ZBB t (.slice a n c::r)=.cells ((.slice a n c::r).map .lit):=rfl
theorem ZRf {t:TypeId}{r:List Value}:ZBB t (.nilFunc::r)=.cells ((.nilFunc::r).map .lit):=rfl
theorem ZQg {t:TypeId}{p:Option Addr}:ZBB t [.pointer p]=.cells [.lit (.pointer p)]:=by cases p<;>rfl
theorem ZQi {t:TypeId}:ZBB t [.pointer none,.slice none 0 0]=.tcells (some t) [.junk,.lit (.slice none 0 0)]:=rfl
theorem ZRc {t:TypeId}{x:Operand}{ρ:Operand->AV}{σ:ZE}{K:AV->ZE->Prop}{k:Box K}:aef P B (.box t x) ρ σ (hold K k)=(zF σ (ρ x) (hold (fun cs=>K (.ptr σ.length 0) (σ++[.cells cs])) .mk)):=rfl
theorem ZOk {t:TypeId}{parts:Array (Nat×Operand)}{ρ:Operand->AV}{σ:ZE}{K:AV->ZE->Prop}{k:Box K}:aef P B (.build t parts) ρ σ (hold K k)=(ZBy P t σ (parts.toList.map fun p=>(p.1,ρ p.2)) (hold K .mk)):=rfl
theorem ZGR {t:TypeId}{len:Nat}{parts:Array (Nat×Operand)}{ρ:Operand->AV}{σ:ZE}{K:AV->ZE->Prop}{k:Box K}:aef P B (.buildSlice t len parts) ρ σ (hold K k)=(ZAD P B t σ len (parts.toList.map fun p=>(p.1,ρ p.2)) (hold K .mk)):=rfl
theorem ZQT {t:TypeId}{x:Operand}{ρ:Operand->AV}{σ:ZE}{K:AV->ZE->Prop}{k:Box K}:aef P B (.load t x) ρ σ (hold K k)=(ZDA P t σ (ρ x) (hold (fun r=>K r σ) .mk)):=rfl
theorem ZOh {t:TypeId}{a x:Operand}{ρ:Operand->AV}{σ:ZE}{K:AV->ZE->Prop}{k:Box K}:aef P B (.store t a x) ρ σ (hold K k)=(ZEB P t σ (ρ a) (ρ x) (hold (fun σ'=>K (.lit undef) σ') .mk)):=rfl
theorem ZJf {x:Operand}{ρ:Operand->AV}{σ:ZE}{K:AV->ZE->Prop}{k:Box K}:aef P B (.nilCheck x) ρ σ (hold K k)=(chk (ZB4 σ (ρ x)) (hold (K (ρ x) σ) .mk)):=rfl
theorem ZOl {op:BinOp}{t yt:TypeId}{x y:Operand}{ρ:Operand->AV}{σ:ZE}{K:AV->ZE->Prop}{k:Box K}:aef P B (.binOp op t x y yt) ρ σ (hold K k)=(ZOw P op t (ρ x) (ρ y) (hold (fun r=>K r σ) .mk)):=rfl
theorem ZQQ {op:UnOp}{t:TypeId}{x:Operand}{ρ:Operand->AV}{σ:ZE}{K:AV->ZE->Prop}{k:Box K}:aef P B (.unOp op t x) ρ σ (hold K k)=(aUn op (ρ x) (hold (fun r=>K r σ) .mk)):=rfl
theorem ZK7 {s d:TypeId}{x:Operand}{ρ:Operand->AV}{σ:ZE}{K:AV->ZE->Prop}{k:Box K}:aef P B (.convert s d x) ρ σ (hold K k)=(ZEP P s d σ (ρ x) (hold (fun r=>K r σ) .mk)):=rfl
theorem ZJg {fn:Fn}{first cap:Array Operand}{ρ:Operand->AV}{σ:ZE}{K:AV->ZE->Prop}{k:Box K}:aef P B (.makeFunc fn first cap) ρ σ (hold K k)=(K (.fn fn (first.toList.map ρ) (cap.toList.map ρ)) σ):=rfl
theorem ZHl {t:TypeId}{l c:Operand}{ρ:Operand->AV}{σ:ZE}{K:AV->ZE->Prop}{k:Box K}:aef P B (.makeSlice t l c) ρ σ (hold K k)=(ZAT P B t σ (ρ l) (ρ c) (hold K .mk)):=rfl
theorem ZOi {t:TypeId}{x:Operand}{lo hi mx:Option Operand}{ρ:Operand->AV}{σ:ZE}{K:AV->ZE->Prop}{k:Box K}:aef P B (.slice t x lo hi mx) ρ σ (hold K k)=(ZBw P t σ (ρ x) (lo.map ρ) (hi.map ρ) (mx.map ρ) (hold K .mk)):=rfl
theorem ZHn {t:TypeId}{x:Operand}{f:Nat}{ρ:Operand->AV}{σ:ZE}{K:AV->ZE->Prop}{k:Box K}:aef P B (.fieldAddr t x f) ρ σ (hold K k)=(ZAG P t σ (ρ x) f (hold (fun r=>K r σ) .mk)):=rfl
theorem ZHm {t:TypeId}{x i:Operand}{ρ:Operand->AV}{σ:ZE}{K:AV->ZE->Prop}{k:Box K}:aef P B (.indexAddr t x i) ρ σ (hold K k)=(Zp P t σ (ρ x) (ρ i) (hold (fun r=>K r σ) .mk)):=rfl
theorem ZOj {t:TypeId}{x i:Operand}{ρ:Operand->AV}{σ:ZE}{K:AV->ZE->Prop}{k:Box K}:aef P B (.index t x i) ρ σ (hold K k)=(ZDK P t (ρ x) (ρ i) (hold (fun r=>K r σ) .mk)):=rfl
theorem ZK6 {x : Operand} {i : Nat}{ρ : Operand -> AV} {σ : ZE}{K : AV -> ZE -> Prop} {k : Box K} : aef P B (.extract x i) ρ σ (hold K k) = (match ρ x with
    | .tup vs=>chk (i<vs.length) (hold (K (vs.getD i .junk) σ) .mk)
    |_=>False):=rfl
theorem ZRb {x y:Operand}{t t2:TypeId}{ρ:Operand->AV}{σ:ZE}{K:AV->ZE->Prop}{k:Box K}:aef P B (.call {callee:=.builtin .len,args:=zA [x],argTypes:=zA [t]}) ρ σ (hold K k)=(ZMs P t σ (ρ x) (hold (fun r=>K r σ) .mk)):=rfl
theorem ZMi {x y:Operand}{t t2:TypeId}{ρ:Operand->AV}{σ:ZE}{K:AV->ZE->Prop}{k:Box K}:aef P B (.call {callee:=.builtin .append,args:=zA [x,y],argTypes:=zA [t,t2]}) ρ σ (hold K k)=(ZCE P B t t2 σ (ρ x) (ρ y) (hold K .mk)):=rfl
theorem ZRZ {x y : Operand} {t t2 : TypeId}{ρ : Operand -> AV} {σ : ZE}{K : AV -> ZE -> Prop} {k : Box K} : aef P B (.call { callee := .builtin .min, args := zA [x, y], argTypes := zA [t, t2] }) ρ σ (hold K k) = (match ρ x, ρ y with
    | .lit (.int k a),.lit (.int _ b)=>K (.lit (.int k (if b<a then b else a))) σ
    |_,_=>False):=by
  simp only[aef,hold,zB,zC]
  unfold ZAy
  generalize ρ x=v;generalize ρ y=u
  cases v<;>try rfl
  next v => cases v <;> try rfl
            cases u<;>try rfl
            next u=>cases u<;>rfl
theorem ZRa {x y : Operand} {t t2 : TypeId}{ρ : Operand -> AV} {σ : ZE}{K : AV -> ZE -> Prop} {k : Box K} : aef P B (.call { callee := .builtin .max, args := zA [x, y], argTypes := zA [t, t2] }) ρ σ (hold K k) = (match ρ x, ρ y with
    | .lit (.int k a),.lit (.int _ b)=>K (.lit (.int k (if b>a then b else a))) σ
    |_,_=>False):=by
  simp only[aef,hold,zB,zC]
  unfold ZAy
  generalize ρ x=v;generalize ρ y=u
  cases v<;>try rfl
  next v => cases v <;> try rfl
            cases u<;>try rfl
            next u=>cases u<;>rfl
theorem ZMc {σ:ZE}{x:AV}{K:List AV->Prop}{k:Box K}:zF σ x (hold K k)=(match x with
  | .agg cs=>K cs
  | .lit v=>chk (ZEH v) (hold (K [.lit v]) .mk)
  | .arr es=>K [.arr es]
  | .rptr e o=>K [.rptr e o]
  | .fn f a b=>K [.fn f a b]
  | .own l n=>chk (ok1 σ (.own l n)) (hold (K [.own l n]) .mk)
  | .ptr l n=>chk (ok1 σ (.ptr l n)) (hold (K [.ptr l n]) .mk)
  | .eptr l n i o=>chk (ok1 σ (.eptr l n i o)) (hold (K [.eptr l n i o]) .mk)
  | .junk=>False
  | .pre _ _ _=>False
  | .tup _=>False):=by cases x<;>simp[zF,ok1,hold,chk]
theorem ZRW {e:List AV}{off n:Nat}{K:List AV->Prop}{k:Box K}:rdE e off n (hold K k)=(if off=0/\n=e.length then K e else chk (off+n<=e.length) (hold (K ((e.drop off).take n)) .mk)):=rfl
theorem ZRV {σ:ZE}{p:AV}{n:Nat}{K:List AV->Prop}{k:Box K}:rdN σ p n (hold K k)=(match p with
  | .rptr e off=>rdE e off n (hold K .mk)
  | .ptr l off=>match σ[l]? with
    |some (.cells cs)=>rdE cs off n (hold K .mk)
    |_=>False
  | .eptr l k i off=>match σ[l]? with
    |some (.elems _ es)=>chk (es.length=k) (hold (chk (i<es.length) (hold (rdE (es.getD i []) off n (hold K .mk)) .mk)) .mk)
    |_=>False
  |_=>False):=rfl
theorem ZRX {σ:ZE}{p:AV}{K:AV->Prop}{k:Box K}:rd1 σ p (hold K k)=(match p with
  | .rptr e off=>chk (off<e.length) (hold (K (e.getD off .junk)) .mk)
  | .ptr l off=>match σ[l]? with
    |some (.cells cs)=>chk (off<cs.length) (hold (K (cs.getD off .junk)) .mk)
    |_=>False
  | .eptr l k i off=>match σ[l]? with
    |some (.elems _ es)=>chk (es.length=k) (hold (chk (i<es.length) (hold (chk (off<(es.getD i []).length) (hold (K ((es.getD i []).getD off .junk)) .mk)) .mk)) .mk)
    |_=>False
  |_=>False):=rfl
theorem ZOb {σ:ZE}{t:TypeId}{p:AV}{K:AV->Prop}{k:Box K}:ZDA P t σ p (hold K k)=(match Zl P t with
  |some i=>if i.sh.isAgg then rdN σ p i.size (hold (fun cs=>K (.agg cs)) .mk)else rd1 σ p (hold K .mk)
  |none=>False):=rfl
theorem ZRU {e cs:List AV}{off:Nat}{K:List AV->Prop}{k:Box K}:wrE e off cs (hold K k)=(if off=0/\cs.length=e.length then K cs
  else chk (off+cs.length<=e.length) (hold (K (e.take off++cs++e.drop (off+cs.length))) .mk)):=rfl
theorem ZRT {σ:ZE}{p:AV}{cs:List AV}{K:ZE->Prop}{k:Box K}:wrN σ p cs (hold K k)=(match p with
  | .ptr l off=>match σ[l]? with
    |some (.cells old)=>wrE old off cs (hold (fun new=>K (σ.set l (.cells new))) .mk)
    |_=>False
  | .eptr l k i off=>match σ[l]? with
    |some (.elems sz es)=>chk (es.length=k) (hold (chk (i<es.length) (hold (wrE (es.getD i []) off cs (hold (fun new=>K (σ.set l (.elems sz (es.set i (new.map (nzs σ)))))) .mk)) .mk)) .mk)
    |_=>False
  |_=>False):=rfl
theorem ZMd {σ:ZE}{t:TypeId}{p v:AV}{K:ZE->Prop}{k:Box K}:ZEB P t σ p v (hold K k)=(match Zl P t with
  |some i=>zF σ v (hold (fun cs=>chk (cs.length=i.size) (hold (chk (Zm σ cs) (hold (wrN σ p cs (hold K .mk)) .mk)) .mk)) .mk)
  |none=>False):=rfl
theorem ZGP {σ:ZE}{t:TypeId}{p:AV}{f:Nat}{K:AV->Prop}{k:Box K}:ZAG P t σ p f (hold K k)=(match Zl P t with
  |some ⟨.struct offs,_,_⟩=>match offs[f]? with
    |some (o,s+1)=>chk (ZB4 σ p) (hold (K (p.adv o)) .mk)
    |_=>False
  |_=>False):=rfl
theorem ZGN {σ:ZE}{t:TypeId}{x i:AV}{K:AV->Prop}{k:Box K}:Zp P t σ x i (hold K k)=(match i,Zl P t with
  | .lit (.int _ n),some ⟨.slice sz _ _,_,_⟩=>match x with
    | .arr es=>chk (0<=n) (hold (chk (n.toNat<es.length) (hold (chk ((es.getD n.toNat []).length=sz) (hold (K (.rptr (es.getD n.toNat []) 0)) .mk)) .mk)) .mk)
    | .own l k=>match σ[l]? with
      |some (.elems sz' es)=>chk (es.length=k) (hold (chk (sz'=sz) (hold (chk (0<=n) (hold (chk (n.toNat<k) (hold (K (.eptr l k n.toNat 0)) .mk)) .mk)) .mk)) .mk)
      |_=>False
    |_=>False
  | .lit (.int _ n),some ⟨.array len (sz+1),_,_⟩=>chk (0<=n) (hold (chk (n.toNat<len) (hold (chk (ZB4 σ x) (hold (K (x.adv (n.toNat*(sz+1)))) .mk)) .mk)) .mk)
  |_,_=>False):=rfl
theorem ZMf {t:TypeId}{x i:AV}{K:AV->Prop}{k:Box K}:ZDK P t x i (hold K k)=(match x,i with
  | .lit (.string s),.lit (.int _ n)=>chk (P.underlying t=some .string) (hold (chk (0<=n) (hold (chk (n.toNat<s.size) (hold (K (.lit (.int .u8 (byteAt s n.toNat)))) .mk)) .mk)) .mk)
  | .agg cs,.lit (.int _ n)=>match P.underlying t with
    |some (.array len e)=>match Zl P e with
      |some j=>chk (j.sh.isAgg=false) (hold (chk (j.size=1) (hold (chk (len=cs.length) (hold (chk (0<=n) (hold (chk (n.toNat<len) (hold (K (cs.getD n.toNat .junk)) .mk)) .mk)) .mk)) .mk)) .mk)
      |none=>False
    |_=>False
  |_,_=>False):=rfl
theorem ZQO {σ:ZE}{t:TypeId}{x:AV}{K:AV->Prop}{k:Box K}:ZMs P t σ x (hold K k)=(match P.underlying t with
  |some (.slice _)=>match x with
    | .arr es=>K (.lit (.int .i64 es.length))
    | .lit (.slice none 0 0)=>K (.lit (.int .i64 0))
    | .own l k=>K (.lit (.int .i64 k))
    |_=>False
  |some .string=>match x with
    | .lit (.string s)=>K (.lit (.int .i64 s.size))
    |_=>False
  |some (.array n _)=>K (.lit (.int .i64 n))
  |_=>False):=rfl
theorem ZMb {σ:ZE}{x:AV}{K:List (List AV)->Prop}{k:Box K}:ZDJ σ x (hold K k)=(match x with
  | .arr es=>K es
  | .lit (.slice none 0 0)=>K []
  | .lit (.slice (some _) 0 _)=>K []
  | .own l k=>match σ[l]? with
    |some (.elems _ es)=>chk (es.length=k) (hold (K es) .mk)
    |_=>False
  |_=>False):=rfl
theorem ZK4 {σ:ZE}{t t2:TypeId}{s x:AV}{K:AV->ZE->Prop}{k:Box K}:ZCE P B t t2 σ s x (hold K k)=(match Zl P t,P.underlying t2 with
  |some ⟨.slice sz bytes zs,_,_⟩,some (.slice _)=>
    chk (zs.length=sz) (hold (chk (sz≠0) (hold (chk (bytes≠0) (hold (ZDJ σ x (hold (fun new=>chk (ZFN sz new) (hold (chk (ZBL σ new) (hold (
      match s with
      | .lit (.slice none 0 0) => chk (new.length <= bd B) (hold (chk ((2 * new.length + 1024) * bytes <= 281474976710656) (hold (
          K (.own σ.length new.length) (σ++[.elems sz new])) .mk)) .mk)
      | .own l n=>match σ[l]? with
        | some (.elems sz' es) => chk (es.length = n) (hold (chk (sz' = sz) (hold (chk (n + new.length <= bd B) (hold (chk ((2 * (n + new.length) + 1024) * bytes <= 281474976710656) (hold (
            K (.own l (n+new.length)) (σ.set l (.elems sz (es++new)))) .mk)) .mk)) .mk)) .mk)
        |_=>False
      |_=>False) .mk)) .mk)) .mk)) .mk)) .mk)) .mk)
  |_,_=>False):=rfl
theorem ZQP {op:BinOp}{t:TypeId}{x y:AV}{K:AV->Prop}{k:Box K}:ZOw P op t x y (hold K k)=(match x,y with
  | .lit (.int k a),.lit (.int k' b)=>chk (k=k') (hold (match op with
    | .add=>K (.lit (.int k (k.wrap (a+b))))
    | .sub=>K (.lit (.int k (k.wrap (a-b))))
    | .mul=>K (.lit (.int k (k.wrap (a*b))))
    | .quo=>chk (b≠0) (hold (K (.lit (.int k (k.wrap (a.tdiv b))))) .mk)
    | .rem=>chk (b≠0) (hold (K (.lit (.int k (a.tmod b)))) .mk)
    | .eql=>K (.lit (.bool (a==b)))
    | .neq=>K (.lit (.bool (a !=b)))
    | .lss=>K (.lit (.bool (a<b)))
    | .leq=>K (.lit (.bool (a<=b)))
    | .gtr=>K (.lit (.bool (a>b)))
    | .geq=>K (.lit (.bool (a≥b)))
    | .xor=>K (.lit (.int k (ZO9 k a b)))
    |_=>False) .mk)
  | .lit (.string a),.lit (.string b)=>match op with
    | .add=>chk ((a.size+b.size:Nat)<=9223372036854775807) (hold (K (.lit (.string (a++b)))) .mk)
    | .eql=>K (.lit (.bool (a.toList==b.toList)))
    | .neq=>K (.lit (.bool (!(a.toList==b.toList))))
    |_=>False
  | .lit (.bool a),.lit (.bool b)=>chk (P.underlying t=some .bool) (hold (match op with
    | .eql=>K (.lit (.bool (a==b)))
    | .neq=>K (.lit (.bool (!(a==b))))
    |_=>False) .mk)
  | .agg xs,.agg ys=>match ZA3 xs,ZA3 ys with
    |some p,some q=>chk (ZCU P t=true) (hold (match op with
      | .eql=>K (.lit (.bool (dec (eq2 p q))))
      | .neq=>K (.lit (.bool (!dec (eq2 p q))))
      |_=>False) .mk)
    |_,_=>match ZBN xs,ZBN ys with
      |some p,some q=>chk (ZDD P t=true) (hold (match op with
        | .eql=>K (.lit (.bool (dec (eq3 p q))))
        | .neq=>K (.lit (.bool (!dec (eq3 p q))))
        |_=>False) .mk)
      |_,_=>match ZCO xs,ZCO ys with
        |some p,some q=>chk (ZDe P t=true) (hold (match op with
          | .eql=>K (.lit (.bool (dec (eq4 p q))))
          | .neq=>K (.lit (.bool (!dec (eq4 p q))))
          |_=>False) .mk)
        |_,_=>False
  | .arr es,.lit (.slice none 0 0)=>chk (ZDW P t=true) (hold (chk (es≠[]) (hold (match op with
    | .eql=>K (.lit (.bool false))
    | .neq=>K (.lit (.bool true))
    |_=>False) .mk)) .mk)
  | .lit (.slice a n c),.lit (.slice none 0 0)=>chk (ZDW P t=true) (hold (match op with
    | .eql=>K (.lit (.bool a.isNone))
    | .neq=>K (.lit (.bool (!a.isNone)))
    |_=>False) .mk)
  |_,_=>False):=rfl
theorem ZRY {op:UnOp}{x:AV}{K:AV->Prop}{k:Box K}:aUn op x (hold K k)=(match op,x with
  | .not,.lit (.bool b)=>K (.lit (.bool (!b)))
  | .neg,.lit (.int k n)=>K (.lit (.int k (k.wrap (0-n))))
  |_,_=>False):=rfl
theorem ZOc {s d:TypeId}{σ:ZE}{x:AV}{K:AV->Prop}{k:Box K}:ZEP P s d σ x (hold K k)=(match P.underlying s,P.underlying d,x with
  |some (.int _),some (.int k),.lit (.int _ n)=>K (.lit (.int k (k.wrap n)))
  |some (.slice e),some .string,.arr es=>chk (ZBI P (some (.slice e))=true) (hold (match u8s es with
    |some ns=>K (.lit (.string (ZDE ns)))
    |none=>False) .mk)
  |some (.slice e),some .string,.own l n=>chk (ZBI P (some (.slice e))=true) (hold (match σ[l]? with
    |some (.elems _ es)=>chk (es.length=n) (hold (match u8s es with
      |some ns=>K (.lit (.string (ZDE ns)))
      |none=>False) .mk)
    |_=>False) .mk)
  |_,_,_=>False):=rfl
theorem ZK3 {σ:ZE}{K:List AV->ZE->Prop}{k:Box K}:frz σ [] (hold K k)=(K [] σ):=id rfl
theorem ZJY {σ:ZE}{x:AV}{r:List AV}{K:List AV->ZE->Prop}{k:Box K}:frz σ (x::r) (hold K k)=(match x with
  | .own l n=>(match σ[l]? with
    |some (.elems _ es)=>chk (es.length=n) (hold (chk (Zc es) (hold (frz (σ.set l .dead) r (hold (fun r' σ'=>K (.arr es::r') σ') .mk)) .mk)) .mk)
    |_=>False)
  | .lit v=>frz σ r (hold (fun r' σ'=>K (.lit v::r') σ') .mk)
  | .arr v=>frz σ r (hold (fun r' σ'=>K (.arr v::r') σ') .mk)
  |y=>frz σ r (hold (fun r' σ'=>K (y::r') σ') .mk)):=by
  simp only[hold]
  cases x with
  |own l n=>simp only[frz];generalize σ[l]? =ob;rcases ob with _|(_|⟨(_|_),cs⟩|⟨(_|_),sz,es⟩)<;>rfl
  |_=>rfl
theorem ZJX {σ:ZE}{K:List (List AV)->ZE->Prop}{k:Box K}:ZMU σ [] (hold K k)=(K [] σ):=id rfl
theorem ZHe {σ:ZE}{x:List AV}{r:List (List AV)}{K:List (List AV)->ZE->Prop}{k:Box K}:ZMU σ (x::r) (hold K k)=(frz σ x (hold (fun e' σ'=>ZMU σ' r (hold (fun r' σ''=>K (e'::r') σ'') .mk)) .mk)):=id rfl
theorem ZQM {σ:ZE}{x:AV}{K:AV->ZE->Prop}{k:Box K}:ZHT σ x (hold K k)=(match x with
  | .agg cs=>frz σ cs (hold (fun cs' σ'=>K (.agg cs') σ') .mk)
  | .own l n=>(match σ[l]? with
    |some (.elems _ es)=>chk (es.length=n) (hold (chk (Zc es) (hold (K (.arr es) (σ.set l .dead)) .mk)) .mk)
    |_=>False)
  | .lit v=>K (.lit v) σ
  | .arr v=>K (.arr v) σ
  |y=>K y σ):=by cases x<;>rfl
theorem ZJa {σ:ZE}{K:List AV->ZE->Prop}{k:Box K}:ZKx σ [] (hold K k)=(K [] σ):=rfl
theorem ZHg {σ:ZE}{x:AV}{r:List AV}{K:List AV->ZE->Prop}{k:Box K}:ZKx σ (x::r) (hold K k)=(ZHT σ x (hold (fun x' σ'=>ZKx σ' r (hold (fun r' σ''=>K (x'::r') σ'') .mk)) .mk)):=rfl
theorem ZQL {σ:ZE}{x:AV}{K:AV->ZE->Prop}{k:Box K}:ZKy σ x (hold K k)=(match x with
  | .tup xs=>ZKx σ xs (hold (fun xs' σ'=>K (.tup xs') σ') .mk)
  | .lit v=>K (.lit v) σ
  | .arr v=>K (.arr v) σ
  |y=>ZHT σ y (hold K .mk)):=by cases x<;>rfl
theorem ZJc {σ:ZE}{fr:Frm}{K:List AV->Prop}{k:Box K}:ZD7 P σ fr [] (hold K k)=(K []):=rfl
theorem ZJb {σ:ZE}{fr:Frm}{t:Nat}{r:List ResultVar}{K:List AV->Prop}{k:Box K}:ZD7 P σ fr (.tmp t::r) (hold K k)=(ZD7 P σ fr r (hold (fun xs=>K (lk fr t::xs)) .mk)):=rfl
theorem ZHh {σ:ZE}{fr:Frm}{a:Nat}{t:TypeId}{r:List ResultVar}{K:List AV->Prop}{k:Box K}:ZD7 P σ fr (.cell a t::r) (hold K k)=(ZDA P t σ (lk fr a) (hold (fun x=>ZD7 P σ fr r (hold (fun xs=>K (x::xs)) .mk)) .mk)):=rfl
theorem ZHi {place:Nat->Option (Nat×Nat)}{σ:ZE}{cs:List AV}{K:List AV->Prop}{k:Box K}:ZBa place σ cs [] (hold K k)=(K cs):=rfl
theorem ZGO {place : Nat -> Option (Nat × Nat)}{σ : ZE}{cs : List AV} {i : Nat} {x : AV} {rest : List (Nat × AV)}{K : List AV -> Prop} {k : Box K} : ZBa place σ cs ((i, x) :: rest) (hold K k) = (match place i with
    |some (off,size)=>zF σ x (hold (fun new=>chk (new.length=size) (hold (wrE cs off new (hold (fun cs'=>ZBa place σ cs' rest (hold K .mk)) .mk)) .mk)) .mk)
    |none=>False):=rfl
theorem ZMg {σ:ZE}{t:TypeId}{ps:List (Nat×AV)}{K:AV->ZE->Prop}{k:Box K}:ZBy P t σ ps (hold K k)=(match Zl P t with
  |some ⟨.struct offs,_,z⟩=>chk ((∀p,p∈offs->p.2≠0)) (hold (chk (z≠[]) (hold (ZBa (fun i=>offs[i]?) σ (z.map .lit) ps (hold (fun cs=>bfrz σ cs (hold (fun cs' σ'=>K (.agg cs') σ') .mk)) .mk)) .mk)) .mk)
  |_=>False):=rfl
theorem ZQN {σ:ZE}{cs:List AV}{K:List AV->ZE->Prop}{k:Box K}:bfrz σ cs (hold K k)=(if σ.any isM=true then K cs σ else frz σ cs (hold K .mk)):=rfl
theorem ZOa {σ:ZE}{es:List (List AV)}{K:List (List AV)->ZE->Prop}{k:Box K}:bfrzs σ es (hold K k)=(if σ.any isK=true/\σ.any isP=true then K es σ else ZMU σ es (hold K .mk)):=rfl
theorem ZGA {n:Nat}{es:List (List AV)}:isK (.elems n es)=decide (n=0):=by cases n<;>rfl
theorem ZGB {cs:List AV}:isK (.cells cs)=false:=rfl
theorem ZIV :isK .dead=false:=rfl
theorem ZIU {xs:List AV}{vs:List Value}:isK (.pack xs vs)=false:=rfl
theorem ZF8 {n:Nat}{es:List (List AV)}:isP (.elems n es)=false:=rfl
theorem ZF9 {cs:List AV}:isP (.cells cs)=false:=rfl
theorem ZIT :isP .dead=false:=rfl
theorem ZIS {xs:List AV}{vs:List Value}:isP (.pack xs vs)=true:=rfl
theorem ZKt {n:Nat}{es:List (List AV)}:isM (.elems n es)=decide (n=0):=by cases n<;>rfl
theorem ZKu {cs:List AV}:isM (.cells cs)=false:=rfl
theorem ZML :isM .dead=false:=rfl
theorem ZMK {xs:List AV}{vs:List Value}:isM (.pack xs vs)=true:=rfl
theorem ZJO {n:Nat}{es:List (List AV)}:ZP6 (.elems n es)=false:=rfl
theorem ZJP {cs:List AV}:ZP6 (.cells cs)=false:=rfl
theorem ZKs :ZP6 .dead=false:=rfl
theorem ZKr {xs:List AV}{vs:List Value}:ZP6 (.pack xs vs)=true:=rfl
theorem ZGQ {σ:ZE}{sz j:Nat}{K:List (List AV)->Prop}{k:Box K}:ZBx σ sz j [] (hold K k)=(K []):=rfl
theorem ZFS {σ:ZE}{sz j i:Nat}{x:AV}{rest:List (Nat×AV)}{K:List (List AV)->Prop}{k:Box K}:ZBx σ sz j ((i,x)::rest) (hold K k)=(chk (i=j) (hold (zF σ x (hold (fun e=>chk (e.length=sz) (hold (ZBx σ sz (j+1) rest (hold (fun es=>K (e.map (nzs σ)::es)) .mk)) .mk)) .mk)) .mk)):=rfl
theorem ZFT {σ:ZE}{t:TypeId}{len:Nat}{ps:List (Nat×AV)}{K:AV->ZE->Prop}{k:Box K}:ZAD P B t σ len ps (hold K k)=(match Zl P t with
  |some ⟨.slice sz _ z,_,_⟩=>chk (ps.length=len) (hold (chk (len*sz<=16777216) (hold (chk (len<=bd B) (hold (chk (z.length=sz) (hold (chk (sz≠0) (hold (ZBx σ sz 0 ps (hold (fun es=>bfrzs σ es (hold (fun es' σ'=>K (.own σ'.length len) (σ'++[.elems sz es'])) .mk)) .mk)) .mk)) .mk)) .mk)) .mk)) .mk)
  |_=>False):=rfl
theorem ZGM {σ:ZE}{t:TypeId}{l c:AV}{K:AV->ZE->Prop}{k:Box K}:ZAT P B t σ l c (hold K k)=(match Zl P t,l,c with
  |some ⟨.slice sz bytes z,_,_⟩,.lit (.int _ n),.lit (.int _ n')=>chk (n=n') (hold (chk (0<=n) (hold (chk (n<=9223372036854775807) (hold (chk (bytes*n<=281474976710656) (hold (chk (n.toNat<=bd B) (hold (chk (z.length=sz) (hold (chk (sz≠0) (hold (K (.own σ.length n.toNat) (σ++[.elems sz (List.replicate n.toNat ((z.map .lit).map (nzs σ)))])) .mk)) .mk)) .mk)) .mk)) .mk)) .mk)) .mk)
  |_,_,_=>False):=rfl
theorem ZMa {x:Option AV}{d:Nat}{K:Nat->Prop}{k:Box K}:ZAm x d (hold K k)=(match x with
  |none=>K d
  |some (.lit (.int _ n))=>chk (0<=n) (hold (K n.toNat) .mk)
  |_=>False):=rfl
theorem ZMe {σ:ZE}{t:TypeId}{x:AV}{lo hi mx:Option AV}{K:AV->ZE->Prop}{k:Box K}:ZBw P t σ x lo hi mx (hold K k)=(match x,mx with
  | .lit (.string s),none=>chk (P.underlying t=some .string) (hold (
    ZAm lo 0 (hold (fun l=>ZAm hi s.size (hold (fun h=>chk (l<=h) (hold (chk (h<=s.size) (hold (K (.lit (.string (s.extract l h))) σ) .mk)) .mk)) .mk)) .mk)) .mk)
  | .arr es,none=>match Zl P t with
    |some ⟨.slice sz _ _,_,_⟩=>chk (ZFN sz es) (hold (
      ZAm lo 0 (hold (fun l=>ZAm hi es.length (hold (fun h=>chk (l<=h) (hold (chk (h<=es.length) (hold (K (.arr ((es.drop l).take (h-l))) σ) .mk)) .mk)) .mk)) .mk)) .mk)
    |_=>False
  | .own l n,none=>match lo,Zl P t with
    |none,some ⟨.slice _ _ _,_,_⟩=>ZAm hi n (hold (fun h=>chk (h<=n) (hold (K (.pre l n h) σ) .mk)) .mk)
    |_,_=>False
  |_,_=>False):=rfl
theorem ZOZ {σ:ZE}{x:AV}:ZB4 σ x=(match x with
  | .rptr _ _=>True
  | .ptr l _=>match σ[l]? with
    |some (.cells _)=>True
    |_=>False
  | .eptr l k _ _=>match σ[l]? with
    |some (.elems _ es)=>es.length=k/\es≠[]
    |_=>False
  |_=>False):=rfl
end
attribute [simp ↓] ZFf ZEO ZMl ZLs ZQ3 ZPL ZE5 ZIz ZG1
  ZP8 ZMM ZQB ZRM ZQC ZOI ZP9 ZQA ZRN ZLq ZQz ZPI ZMm ZRe ZQd ZQ6 ZL1 ZKv ZJS ZHR ZHQ ZPl ZPP ZL8 ZLu ZPk ZPO ZN8 ZNn ZQ8 ZQ4 ZN6 ZNl ZF0 ZFv ZPm ZPQ ZN3 ZNi ZJE ZI1 ZN7 ZNm ZPj ZPN ZKe ZKD ZJF ZI2 ZHF ZG2 ZN4 ZNj ZHH ZG4 ZHG ZG3 ZN5 ZNk ZKd ZKC ZKf ZKE ZPn ZPR ZOH ZOG ZJR ZJQ ZOJ ZMN ZJU ZJT ZGD ZQS ZMh ZQR ZOm ZQh ZOx ZLX ZMt ZRf ZQg ZQi ZRc ZOk ZGR ZQT ZOh ZJf ZOl ZQQ ZK7 ZJg ZHl ZOi ZHn ZHm ZOj ZK6 ZRb ZMi ZRZ ZRa ZMc ZRW ZRV ZRX ZOb ZRU ZRT ZMd ZGP ZGN ZMf ZQO ZMb ZK4 ZQP ZRY ZOc ZK3 ZJY ZJX ZHe ZQM ZJa ZHg ZQL ZJc ZJb ZHh ZHi ZGO ZMg ZQN ZOa ZGA ZGB ZIV ZIU ZF8 ZF9 ZIT ZIS ZGQ ZFS ZFT ZGM ZMa ZMe ZOZ
attribute [simp] ZIo ZGr ZQm u8s ZBI
attribute [simp] ZGA ZGB ZIV ZIU ZF8 ZF9 ZIT ZIS ZKt ZKu ZML ZMK ZJO ZJP ZKs ZKr nzs
attribute [simp] nz AV.le AV.le.les ZMW ZDb Blk.le pack ZE9 Blk.closed Zn ZMX AV.bnd AV.bnd.bnds ev ZCF lk AV.adv Sh.isAgg ZAa
theorem ZQZ {n:Nat}{v:Value}:zD n (.lit v)↔True:=by simp[zD]
theorem ZOq {n:Nat}:zD n .junk↔True:=by simp[zD]
theorem ZQa {n:Nat}{es:List (List AV)}:zD n (.arr es)↔True:=by simp[zD]
theorem ZOp {n:Nat}{e:List AV}{o:Nat}:zD n (.rptr e o)↔True:=by simp[zD]
theorem ZQX {n l i k:Nat}:zD n (.pre l i k)↔l<n:=by simp[zD]
theorem ZQY {n l k:Nat}:zD n (.own l k)↔l<n:=by simp[zD]
theorem ZQW {n l k:Nat}:zD n (.ptr l k)↔l<n:=by simp[zD]
theorem ZOr {n l k i o:Nat}:zD n (.eptr l k i o)↔l<n:=by simp[zD]
theorem ZQb {n:Nat}{cs:List AV}:zD n (.agg cs)↔zD.closeds n cs:=by simp[zD]
theorem ZQV {n:Nat}{cs:List AV}:zD n (.tup cs)↔zD.closeds n cs:=by simp[zD]
theorem ZRd {n:Nat}{f:Fn}{xs ys:List AV}:zD n (.fn f xs ys)↔zD.closeds n xs/\zD.closeds n ys:=by simp[zD]
theorem ZOn {n:Nat}:zD.closeds n []↔True:=by simp[zD.closeds]
theorem ZMk {n:Nat}{x:AV}{r:List AV}:zD.closeds n (x::r)↔x.closed n/\zD.closeds n r:=by simp[zD.closeds]
theorem ZPX {v:Value}:zE (.lit v)↔True:=by simp[zE]
theorem ZNq :zE .junk↔True:=by simp[zE]
theorem ZPY {es:List (List AV)}:zE (.arr es)↔True:=by simp[zE]
theorem ZNp {e:List AV}{o:Nat}:zE (.rptr e o)↔True:=by simp[zE]
theorem ZPV {l i k:Nat}:zE (.pre l i k)↔False:=by simp[zE]
theorem ZPW {l k:Nat}:zE (.own l k)↔False:=by simp[zE]
theorem ZPU {l k:Nat}:zE (.ptr l k)↔False:=by simp[zE]
theorem ZPZ {cs:List AV}:zE (.agg cs)↔zE.pures cs:=by simp[zE]
theorem ZPT {cs:List AV}:zE (.tup cs)↔zE.pures cs:=by simp[zE]
theorem ZQ5 {f:Fn}{xs ys:List AV}:zE (.fn f xs ys)↔zE.pures xs/\zE.pures ys:=by simp[zE]
theorem ZNo :zE.pures []↔True:=by simp[zE.pures]
theorem ZLv {x:AV}{r:List AV}:zE.pures (x::r)↔x.pure/\zE.pures r:=by simp[zE.pures]
theorem ZL6 {b:Bool}:ZEH (.bool b)↔True:=by simp[ZEH]
theorem ZNz {k:IntKind}{b:Int}:ZEH (.int k b)↔True:=by simp[ZEH]
theorem ZJA {b:ByteArray}:ZEH (.string b)↔True:=by simp[ZEH]
theorem ZKX {a:Option Addr}{l c:Nat}:ZEH (.slice a l c)↔True:=by simp[ZEH]
theorem ZHC {a:Option Addr}:ZEH (.pointer a)↔True:=by simp[ZEH]
theorem ZNy {a:Option Nat}:ZEH (.map a)↔True:=by simp[ZEH]
theorem ZHD :ZEH .nilFunc↔True:=by simp[ZEH]
theorem ZPh {σ:ZE}{v:Value}:ok1 σ (.lit v)↔ZEH v:=by simp[ok1]
theorem ZPi {σ:ZE}{es:List (List AV)}:ok1 σ (.arr es)↔True:=by simp[ok1]
theorem ZN1 {σ:ZE}{e:List AV}{o:Nat}:ok1 σ (.rptr e o)↔True:=by simp[ok1]
theorem ZQ7 {σ:ZE}{f:Fn}{xs ys:List AV}:ok1 σ (.fn f xs ys)↔True:=by simp[ok1]
theorem ZPg {σ:ZE}{l n:Nat}:ok1 σ (.own l n)=(match σ[l]? with|some (.elems _ es)=>es.length=n|_=>False):=rfl
theorem ZPf {σ:ZE}{l n:Nat}:ok1 σ (.ptr l n)=(match σ[l]? with|some (.cells _)=>True|_=>False):=rfl
theorem ZN2 {σ:ZE}{l n i o:Nat}:ok1 σ (.eptr l n i o)=(match σ[l]? with|some (.elems _ es)=>es.length=n/\es≠[]|_=>False):=rfl
theorem ZN0 {σ:ZE}:Zm σ []↔True:=by simp[Zm]
theorem ZL7 {σ:ZE}{x:AV}{r:List AV}:Zm σ (x::r)↔ok1 σ x/\Zm σ r:=by simp[Zm]
attribute [simp] ZQX ZPV ZQZ ZOq ZQa ZOp ZQY ZQW ZOr ZQb ZQV ZRd ZOn ZMk ZPX ZNq ZPY ZNp ZPW ZPU ZPZ ZPT ZQ5 ZNo ZLv ZL6 ZNz ZJA ZKX ZHC ZNy ZHD ZPh ZPi ZN1 ZQ7 ZPg ZPf ZN2 ZN0 ZL7
end Go.Vl
