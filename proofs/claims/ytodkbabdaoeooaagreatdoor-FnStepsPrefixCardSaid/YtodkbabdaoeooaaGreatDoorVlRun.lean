/- Part. -/
import Derived.Test.YtodkbabdaoeooaaGreatDoorVlStep
set_option linter.all false
open List renaming toArray->zA,map_cons->zB,map_nil->zC
namespace Go.Vl
open Go Go.RowKit
open AV renaming closed->zD,pure->zE,cellsK->zF
section
variable {P : Program} {B nb N : Nat}
theorem ZQX {Q:Exit->ASt->Prop}{q:Box Q}{st:ASt}:awp P B nb N .skip st (hold Q q)=(Q .normal st):=rfl
theorem ZMW {Q:Exit->ASt->Prop}{q:Box Q}{st:ASt}{id:Nat}{l:List Oper}:awp P B nb N (.region id (zA l) false) st (hold Q q)=(ZIu P B N (hold (zA l) .mk) l st (hold (Q .normal) .mk)):=by simp only[awp,Bool.false_eq_true,if_false,hold]
theorem ZQa {Q:Exit->ASt->Prop}{q:Box Q}{st:ASt}{id:Nat}{ops:Array Oper}:awp P B nb N (.region id ops true) st (hold Q q)=(ADraw P B nb N (hold ops .mk) st (hold (Q .normal) .mk)):=by simp only[awp,if_true,hold]
theorem ZRl {Q:Exit->ASt->Prop}{q:Box Q}{st:ASt}{a b:Code}:awp P B nb N (.seq a b) st (hold Q q)=(awp P B nb N a st (hold (ZRB P B nb N b Q) .mk)):=by simp only[hold];rw[awp];congr
theorem ZQb {Q : Exit -> ASt -> Prop} {q : Box Q}{st : ASt}{c : Operand} {a b : Code} : awp P B nb N (.cond c a b) st (hold Q q) = (match ev st.fr c with
    | .lit (.bool v)=>abr (v=true) (hold (awp P B nb N a st (hold Q .mk)) .mk) (hold (awp P B nb N b st (hold Q .mk)) .mk)
    |_=>False):=by
  simp only[awp,hold]
  generalize ev st.fr c=v
  cases v<;>try rfl
  next v=>cases v<;>first|exact ZIC.symm|rfl
theorem ZOf {Q:Exit->ASt->Prop}{q:Box Q}{st:ASt}{id:Nat}{c:Code}:awp P B nb N (.block id c) st (hold Q q)=(awp P B nb N c st (hold (ZIr id Q) .mk)):=by simp only[hold];rw[awp];congr
theorem ZQY {Q:Exit->ASt->Prop}{q:Box Q}{st:ASt}{c:Code}:awp P B nb N (.loop c) st (hold Q q)=(ALoop P B nb N (hold c .mk) st (hold Q .mk)):=rfl
theorem ZQZ {Q:Exit->ASt->Prop}{q:Box Q}{st:ASt}{i:Nat}:awp P B nb N (.exit i) st (hold Q q)=(Q (.exit i) st):=rfl
theorem ZRm {Q:Exit->ASt->Prop}{q:Box Q}{st:ASt}:awp P B nb N .ret st (hold Q q)=(Q .ret st):=rfl
theorem ZL3 {c:Code}{bc:Box c}{Q:Exit->ASt->Prop}{bQ:Box Q}{st:ASt}:ZF2 P B nb N (hold c bc) (hold Q bQ) .normal st=Again P B nb N (hold c .mk) (hold Q .mk) st:=rfl
theorem ZRS {c:Code}{bc:Box c}{Q:Exit->ASt->Prop}{bQ:Box Q}{st:ASt}:ZF2 P B nb N (hold c bc) (hold Q bQ) .ret st=Leave B nb N (hold Q .mk) .ret st:=rfl
theorem ZPj {c:Code}{bc:Box c}{Q:Exit->ASt->Prop}{bQ:Box Q}{i:Nat}{st:ASt}:ZF2 P B nb N (hold c bc) (hold Q bQ) (.exit i) st=Leave B nb N (hold Q .mk) (.exit i) st:=rfl
theorem ZL1 {Q:Exit->ASt->Prop}{st:ASt}{b:Code}:ZRB P B nb N b Q .normal st=(awp P B nb N b st (hold Q .mk)):=rfl
theorem ZRO {Q:Exit->ASt->Prop}{st:ASt}{b:Code}:ZRB P B nb N b Q .ret st=(Q .ret st):=rfl
theorem ZPg {Q:Exit->ASt->Prop}{st:ASt}{b:Code}{i:Nat}:ZRB P B nb N b Q (.exit i) st=(Q (.exit i) st):=rfl
theorem ZM0 {Q:Exit->ASt->Prop}{st:ASt}{i:Nat}:ZIr i Q .normal st=(Q .normal st):=rfl
theorem ZR2 {Q:Exit->ASt->Prop}{st:ASt}{i:Nat}:ZIr i Q .ret st=(Q .ret st):=rfl
theorem ZQ1 {Q:Exit->ASt->Prop}{st:ASt}{i j:Nat}:ZIr i Q (.exit j) st=(if j=i then Q .normal st else Q (.exit j) st):=rfl
theorem ZRV {fn:Func}{K:AV->ZA->Prop}{st:ASt}:ZAm P fn K .ret st=(ZEH P st.σ st.fr fn.results.toList (hold (fun xs=>ZLp st.σ (pack xs) (hold K .mk)) .mk)):=rfl
theorem ZMC {fn:Func}{K:AV->ZA->Prop}{st:ASt}:ZAm P fn K .normal st=(ZEH P st.σ st.fr fn.results.toList (hold (fun xs=>ZLp st.σ (pack xs) (hold K .mk)) .mk)):=rfl
theorem ZLA {K:ASt->Prop}{k:Box K}{st:ASt}{ops:Array Oper}:ZIu P B N ops [] st (hold K k)=(K st):=rfl
theorem ZJd {K:ASt->Prop}{k:Box K}{st:ASt}{ops:Array Oper}{bo:Box ops}{o:Oper}{rest:List Oper}:ZIu P B N (hold ops bo) (o::rest) st (hold K k)=(ZAj (hold ops .mk) st.fr o.guard (hold (aop P B N o st (hold (fun st'=>ZIu P B N (hold ops .mk) rest st' (hold K .mk)) .mk)) .mk) (hold (ZAK N o.dst (.lit undef) st.fr st.σ (hold (fun st'=>ZIu P B N (hold ops .mk) rest st' (hold K .mk)) .mk)) .mk)):=rfl
theorem ZHj {ops:Array Oper}{bo:Box ops}{fr:Frm}{y n:Prop}{b:Box y}{b':Box n}:ZAj (hold ops bo) fr none (hold y b) (hold n b')=(y):=rfl
def ZKC (w:Bool)(v:AV)(y n:Prop):Prop:=match v with
  | .lit (.bool b)=>abr (b=w) (hold y .mk) (hold n .mk)
  | .lit _=>n
  |_=>False
theorem ZI0 {w b:Bool}{y n:Prop}{k:Box y}{k':Box n}:ZKC w (.lit (.bool b)) (hold y k) (hold n k')=abr (b=w) (hold y .mk) (hold n .mk):=rfl
theorem ZHA {w:Bool}{y n:Prop}{k:Box y}{k':Box n}:ZKC w (.lit undef) (hold y k) (hold n k')=n:=rfl
theorem ZHi {ops : Array Oper} {bo : Box ops}{fr : Frm} {j : Nat} {w : Bool} {y n : Prop} {b : Box y} {b' : Box n} : ZAj (hold ops bo) fr (some (j, w)) (hold y b) (hold n b') = (match (ops[j]?).bind (·.dst) with
      |none=>False
      |some d=>ZKC w (lk fr d) (hold y .mk) (hold n .mk)):=by
  simp only[ZAj,hold]
  generalize(ops[j]?).bind (fun x=>x.dst)=od
  cases od with
  |none=>rfl
  |some d=>
    simp only[]
    generalize lk fr d=v
    cases v<;>try rfl
    next v=>cases v<;>first|(simp only[yb,ZKC,Option.some.injEq];exact ZIC.symm)|(simp[yb,ZKC,hold];done)|rfl
theorem ZP9 {x:Operand}{d:Option Nat}{t:TypeId}{p:String}{es:Array Edge}{g:Option (Nat×Bool)}{st:ASt}{K:ASt->Prop}{k:Box K}:aop P B N ⟨d,.move x,t,p,es,g⟩ st (hold K k)=(aef P B (.move x) (ev st.fr) st.σ (hold (fun r σ'=>ZAK N d r st.fr σ' (hold K .mk)) .mk)):=rfl
theorem ZPn {x:Operand}{fr:Frm}{σ:ZA}{K:AV->Prop}{k:Box K}:ZC6 P B (.move x) fr σ (hold K k)=(aef P B (.move x) (ev fr) σ (hold (fun r σ'=>chk (σ'=σ) (hold (K r) .mk)) .mk)):=rfl
theorem ZMI {x:Operand}{d:Option Nat}{t:TypeId}{p:String}{es:Array Edge}{g:Option (Nat×Bool)}{st:ASt}{K:ASt->Prop}{k:Box K}:aop P B N ⟨d,.assign x,t,p,es,g⟩ st (hold K k)=(aef P B (.assign x) (ev st.fr) st.σ (hold (fun r σ'=>ZAK N d r st.fr σ' (hold K .mk)) .mk)):=rfl
theorem ZL5 {x:Operand}{fr:Frm}{σ:ZA}{K:AV->Prop}{k:Box K}:ZC6 P B (.assign x) fr σ (hold K k)=(aef P B (.assign x) (ev fr) σ (hold (fun r σ'=>chk (σ'=σ) (hold (K r) .mk)) .mk)):=rfl
theorem ZP8 {c a b:Operand}{d:Option Nat}{t:TypeId}{p:String}{es:Array Edge}{g:Option (Nat×Bool)}{st:ASt}{K:ASt->Prop}{k:Box K}:aop P B N ⟨d,.pick c a b,t,p,es,g⟩ st (hold K k)=(aef P B (.pick c a b) (ev st.fr) st.σ (hold (fun r σ'=>ZAK N d r st.fr σ' (hold K .mk)) .mk)):=rfl
theorem ZPm {c a b:Operand}{fr:Frm}{σ:ZA}{K:AV->Prop}{k:Box K}:ZC6 P B (.pick c a b) fr σ (hold K k)=(aef P B (.pick c a b) (ev fr) σ (hold (fun r σ'=>chk (σ'=σ) (hold (K r) .mk)) .mk)):=rfl
theorem ZOS {e:TypeId}{d:Option Nat}{t:TypeId}{p:String}{es:Array Edge}{g:Option (Nat×Bool)}{st:ASt}{K:ASt->Prop}{k:Box K}:aop P B N ⟨d,.alloc e,t,p,es,g⟩ st (hold K k)=(aef P B (.alloc e) (ev st.fr) st.σ (hold (fun r σ'=>ZAK N d r st.fr σ' (hold K .mk)) .mk)):=rfl
theorem ZN7 {e:TypeId}{fr:Frm}{σ:ZA}{K:AV->Prop}{k:Box K}:ZC6 P B (.alloc e) fr σ (hold K k)=(aef P B (.alloc e) (ev fr) σ (hold (fun r σ'=>chk (σ'=σ) (hold (K r) .mk)) .mk)):=rfl
theorem ZRX {e:TypeId}{x:Operand}{d:Option Nat}{t:TypeId}{p:String}{es:Array Edge}{g:Option (Nat×Bool)}{st:ASt}{K:ASt->Prop}{k:Box K}:aop P B N ⟨d,.box e x,t,p,es,g⟩ st (hold K k)=(aef P B (.box e x) (ev st.fr) st.σ (hold (fun r σ'=>ZAK N d r st.fr σ' (hold K .mk)) .mk)):=rfl
theorem ZRT {e:TypeId}{x:Operand}{fr:Frm}{σ:ZA}{K:AV->Prop}{k:Box K}:ZC6 P B (.box e x) fr σ (hold K k)=(aef P B (.box e x) (ev fr) σ (hold (fun r σ'=>chk (σ'=σ) (hold (K r) .mk)) .mk)):=rfl
theorem ZOQ {ty:TypeId}{parts:Array (Nat×Operand)}{d:Option Nat}{t:TypeId}{p:String}{es:Array Edge}{g:Option (Nat×Bool)}{st:ASt}{K:ASt->Prop}{k:Box K}:aop P B N ⟨d,.build ty parts,t,p,es,g⟩ st (hold K k)=(aef P B (.build ty parts) (ev st.fr) st.σ (hold (fun r σ'=>ZAK N d r st.fr σ' (hold K .mk)) .mk)):=rfl
theorem ZN5 {ty:TypeId}{parts:Array (Nat×Operand)}{fr:Frm}{σ:ZA}{K:AV->Prop}{k:Box K}:ZC6 P B (.build ty parts) fr σ (hold K k)=(aef P B (.build ty parts) (ev fr) σ (hold (fun r σ'=>chk (σ'=σ) (hold (K r) .mk)) .mk)):=rfl
theorem ZGJ {ty:TypeId}{len:Nat}{parts:Array (Nat×Operand)}{d:Option Nat}{t:TypeId}{p:String}{es:Array Edge}{g:Option (Nat×Bool)}{st:ASt}{K:ASt->Prop}{k:Box K}:aop P B N ⟨d,.buildSlice ty len parts,t,p,es,g⟩ st (hold K k)=(aef P B (.buildSlice ty len parts) (ev st.fr) st.σ (hold (fun r σ'=>ZAK N d r st.fr σ' (hold K .mk)) .mk)):=rfl
theorem ZF8 {ty:TypeId}{len:Nat}{parts:Array (Nat×Operand)}{fr:Frm}{σ:ZA}{K:AV->Prop}{k:Box K}:ZC6 P B (.buildSlice ty len parts) fr σ (hold K k)=(aef P B (.buildSlice ty len parts) (ev fr) σ (hold (fun r σ'=>chk (σ'=σ) (hold (K r) .mk)) .mk)):=rfl
theorem ZQA {ty:TypeId}{x:Operand}{d:Option Nat}{t:TypeId}{p:String}{es:Array Edge}{g:Option (Nat×Bool)}{st:ASt}{K:ASt->Prop}{k:Box K}:aop P B N ⟨d,.load ty x,t,p,es,g⟩ st (hold K k)=(aef P B (.load ty x) (ev st.fr) st.σ (hold (fun r σ'=>ZAK N d r st.fr σ' (hold K .mk)) .mk)):=rfl
theorem ZPo {ty:TypeId}{x:Operand}{fr:Frm}{σ:ZA}{K:AV->Prop}{k:Box K}:ZC6 P B (.load ty x) fr σ (hold K k)=(aef P B (.load ty x) (ev fr) σ (hold (fun r σ'=>chk (σ'=σ) (hold (K r) .mk)) .mk)):=rfl
theorem ZON {ty:TypeId}{x v:Operand}{d:Option Nat}{t:TypeId}{p:String}{es:Array Edge}{g:Option (Nat×Bool)}{st:ASt}{K:ASt->Prop}{k:Box K}:aop P B N ⟨d,.store ty x v,t,p,es,g⟩ st (hold K k)=(aef P B (.store ty x v) (ev st.fr) st.σ (hold (fun r σ'=>ZAK N d r st.fr σ' (hold K .mk)) .mk)):=rfl
theorem ZN2 {ty:TypeId}{x v:Operand}{fr:Frm}{σ:ZA}{K:AV->Prop}{k:Box K}:ZC6 P B (.store ty x v) fr σ (hold K k)=(aef P B (.store ty x v) (ev fr) σ (hold (fun r σ'=>chk (σ'=σ) (hold (K r) .mk)) .mk)):=rfl
theorem ZJU {x:Operand}{d:Option Nat}{t:TypeId}{p:String}{es:Array Edge}{g:Option (Nat×Bool)}{st:ASt}{K:ASt->Prop}{k:Box K}:aop P B N ⟨d,.nilCheck x,t,p,es,g⟩ st (hold K k)=(aef P B (.nilCheck x) (ev st.fr) st.σ (hold (fun r σ'=>ZAK N d r st.fr σ' (hold K .mk)) .mk)):=rfl
theorem ZJF {x:Operand}{fr:Frm}{σ:ZA}{K:AV->Prop}{k:Box K}:ZC6 P B (.nilCheck x) fr σ (hold K k)=(aef P B (.nilCheck x) (ev fr) σ (hold (fun r σ'=>chk (σ'=σ) (hold (K r) .mk)) .mk)):=rfl
theorem ZOR {op:BinOp}{ty:TypeId}{x y:Operand}{ty2:TypeId}{d:Option Nat}{t:TypeId}{p:String}{es:Array Edge}{g:Option (Nat×Bool)}{st:ASt}{K:ASt->Prop}{k:Box K}:aop P B N ⟨d,.binOp op ty x y ty2,t,p,es,g⟩ st (hold K k)=(aef P B (.binOp op ty x y ty2) (ev st.fr) st.σ (hold (fun r σ'=>ZAK N d r st.fr σ' (hold K .mk)) .mk)):=rfl
theorem ZN6 {op:BinOp}{ty:TypeId}{x y:Operand}{ty2:TypeId}{fr:Frm}{σ:ZA}{K:AV->Prop}{k:Box K}:ZC6 P B (.binOp op ty x y ty2) fr σ (hold K k)=(aef P B (.binOp op ty x y ty2) (ev fr) σ (hold (fun r σ'=>chk (σ'=σ) (hold (K r) .mk)) .mk)):=rfl
theorem ZP7 {op:UnOp}{ty:TypeId}{x:Operand}{d:Option Nat}{t:TypeId}{p:String}{es:Array Edge}{g:Option (Nat×Bool)}{st:ASt}{K:ASt->Prop}{k:Box K}:aop P B N ⟨d,.unOp op ty x,t,p,es,g⟩ st (hold K k)=(aef P B (.unOp op ty x) (ev st.fr) st.σ (hold (fun r σ'=>ZAK N d r st.fr σ' (hold K .mk)) .mk)):=rfl
theorem ZPl {op:UnOp}{ty:TypeId}{x:Operand}{fr:Frm}{σ:ZA}{K:AV->Prop}{k:Box K}:ZC6 P B (.unOp op ty x) fr σ (hold K k)=(aef P B (.unOp op ty x) (ev fr) σ (hold (fun r σ'=>chk (σ'=σ) (hold (K r) .mk)) .mk)):=rfl
theorem ZKu {ty ty2:TypeId}{x:Operand}{d:Option Nat}{t:TypeId}{p:String}{es:Array Edge}{g:Option (Nat×Bool)}{st:ASt}{K:ASt->Prop}{k:Box K}:aop P B N ⟨d,.convert ty ty2 x,t,p,es,g⟩ st (hold K k)=(aef P B (.convert ty ty2 x) (ev st.fr) st.σ (hold (fun r σ'=>ZAK N d r st.fr σ' (hold K .mk)) .mk)):=rfl
theorem ZKQ {ty ty2:TypeId}{x:Operand}{fr:Frm}{σ:ZA}{K:AV->Prop}{k:Box K}:ZC6 P B (.convert ty ty2 x) fr σ (hold K k)=(aef P B (.convert ty ty2 x) (ev fr) σ (hold (fun r σ'=>chk (σ'=σ) (hold (K r) .mk)) .mk)):=rfl
theorem ZJV {fn:Fn}{first captured:Array Operand}{d:Option Nat}{t:TypeId}{p:String}{es:Array Edge}{g:Option (Nat×Bool)}{st:ASt}{K:ASt->Prop}{k:Box K}:aop P B N ⟨d,.makeFunc fn first captured,t,p,es,g⟩ st (hold K k)=(aef P B (.makeFunc fn first captured) (ev st.fr) st.σ (hold (fun r σ'=>ZAK N d r st.fr σ' (hold K .mk)) .mk)):=rfl
theorem ZJG {fn:Fn}{first captured:Array Operand}{fr:Frm}{σ:ZA}{K:AV->Prop}{k:Box K}:ZC6 P B (.makeFunc fn first captured) fr σ (hold K k)=(aef P B (.makeFunc fn first captured) (ev fr) σ (hold (fun r σ'=>chk (σ'=σ) (hold (K r) .mk)) .mk)):=rfl
theorem ZHX {ty:TypeId}{len cap:Operand}{d:Option Nat}{t:TypeId}{p:String}{es:Array Edge}{g:Option (Nat×Bool)}{st:ASt}{K:ASt->Prop}{k:Box K}:aop P B N ⟨d,.makeSlice ty len cap,t,p,es,g⟩ st (hold K k)=(aef P B (.makeSlice ty len cap) (ev st.fr) st.σ (hold (fun r σ'=>ZAK N d r st.fr σ' (hold K .mk)) .mk)):=rfl
theorem ZHM {ty:TypeId}{len cap:Operand}{fr:Frm}{σ:ZA}{K:AV->Prop}{k:Box K}:ZC6 P B (.makeSlice ty len cap) fr σ (hold K k)=(aef P B (.makeSlice ty len cap) (ev fr) σ (hold (fun r σ'=>chk (σ'=σ) (hold (K r) .mk)) .mk)):=rfl
theorem ZOO {ty:TypeId}{x:Operand}{low high mx:Option Operand}{d:Option Nat}{t:TypeId}{p:String}{es:Array Edge}{g:Option (Nat×Bool)}{st:ASt}{K:ASt->Prop}{k:Box K}:aop P B N ⟨d,.slice ty x low high mx,t,p,es,g⟩ st (hold K k)=(aef P B (.slice ty x low high mx) (ev st.fr) st.σ (hold (fun r σ'=>ZAK N d r st.fr σ' (hold K .mk)) .mk)):=rfl
theorem ZN3 {ty:TypeId}{x:Operand}{low high mx:Option Operand}{fr:Frm}{σ:ZA}{K:AV->Prop}{k:Box K}:ZC6 P B (.slice ty x low high mx) fr σ (hold K k)=(aef P B (.slice ty x low high mx) (ev fr) σ (hold (fun r σ'=>chk (σ'=σ) (hold (K r) .mk)) .mk)):=rfl
theorem ZHZ {ty:TypeId}{x:Operand}{f:Nat}{d:Option Nat}{t:TypeId}{p:String}{es:Array Edge}{g:Option (Nat×Bool)}{st:ASt}{K:ASt->Prop}{k:Box K}:aop P B N ⟨d,.fieldAddr ty x f,t,p,es,g⟩ st (hold K k)=(aef P B (.fieldAddr ty x f) (ev st.fr) st.σ (hold (fun r σ'=>ZAK N d r st.fr σ' (hold K .mk)) .mk)):=rfl
theorem ZHO {ty:TypeId}{x:Operand}{f:Nat}{fr:Frm}{σ:ZA}{K:AV->Prop}{k:Box K}:ZC6 P B (.fieldAddr ty x f) fr σ (hold K k)=(aef P B (.fieldAddr ty x f) (ev fr) σ (hold (fun r σ'=>chk (σ'=σ) (hold (K r) .mk)) .mk)):=rfl
theorem ZHY {ty:TypeId}{x i:Operand}{d:Option Nat}{t:TypeId}{p:String}{es:Array Edge}{g:Option (Nat×Bool)}{st:ASt}{K:ASt->Prop}{k:Box K}:aop P B N ⟨d,.indexAddr ty x i,t,p,es,g⟩ st (hold K k)=(aef P B (.indexAddr ty x i) (ev st.fr) st.σ (hold (fun r σ'=>ZAK N d r st.fr σ' (hold K .mk)) .mk)):=rfl
theorem ZHN {ty:TypeId}{x i:Operand}{fr:Frm}{σ:ZA}{K:AV->Prop}{k:Box K}:ZC6 P B (.indexAddr ty x i) fr σ (hold K k)=(aef P B (.indexAddr ty x i) (ev fr) σ (hold (fun r σ'=>chk (σ'=σ) (hold (K r) .mk)) .mk)):=rfl
theorem ZOP {ty:TypeId}{x i:Operand}{d:Option Nat}{t:TypeId}{p:String}{es:Array Edge}{g:Option (Nat×Bool)}{st:ASt}{K:ASt->Prop}{k:Box K}:aop P B N ⟨d,.index ty x i,t,p,es,g⟩ st (hold K k)=(aef P B (.index ty x i) (ev st.fr) st.σ (hold (fun r σ'=>ZAK N d r st.fr σ' (hold K .mk)) .mk)):=rfl
theorem ZN4 {ty:TypeId}{x i:Operand}{fr:Frm}{σ:ZA}{K:AV->Prop}{k:Box K}:ZC6 P B (.index ty x i) fr σ (hold K k)=(aef P B (.index ty x i) (ev fr) σ (hold (fun r σ'=>chk (σ'=σ) (hold (K r) .mk)) .mk)):=rfl
theorem ZKt {x:Operand}{i:Nat}{d:Option Nat}{t:TypeId}{p:String}{es:Array Edge}{g:Option (Nat×Bool)}{st:ASt}{K:ASt->Prop}{k:Box K}:aop P B N ⟨d,.extract x i,t,p,es,g⟩ st (hold K k)=(aef P B (.extract x i) (ev st.fr) st.σ (hold (fun r σ'=>ZAK N d r st.fr σ' (hold K .mk)) .mk)):=rfl
theorem ZKP {x:Operand}{i:Nat}{fr:Frm}{σ:ZA}{K:AV->Prop}{k:Box K}:ZC6 P B (.extract x i) fr σ (hold K k)=(aef P B (.extract x i) (ev fr) σ (hold (fun r σ'=>chk (σ'=σ) (hold (K r) .mk)) .mk)):=rfl
theorem ZKv {bi:Builtin}{args:Array Operand}{ts:Array TypeId}{d:Option Nat}{t:TypeId}{p:String}{es:Array Edge}{g:Option (Nat×Bool)}{st:ASt}{K:ASt->Prop}{k:Box K}:aop P B N ⟨d,.call {callee:=.builtin bi,args:=args,argTypes:=ts},t,p,es,g⟩ st (hold K k)=(aef P B (.call {callee:=.builtin bi,args:=args,argTypes:=ts}) (ev st.fr) st.σ (hold (fun r σ'=>ZAK N d r st.fr σ' (hold K .mk)) .mk)):=rfl
theorem ZKR {bi:Builtin}{args:Array Operand}{ts:Array TypeId}{fr:Frm}{σ:ZA}{K:AV->Prop}{k:Box K}:ZC6 P B (.call {callee:=.builtin bi,args:=args,argTypes:=ts}) fr σ (hold K k)=(aef P B (.call {callee:=.builtin bi,args:=args,argTypes:=ts}) (ev fr) σ (hold (fun r σ'=>chk (σ'=σ) (hold (K r) .mk)) .mk)):=rfl
theorem ZQB {f:Operand}{args:Array Operand}{ts:Array TypeId}{d:Option Nat}{t:TypeId}{p:String}{es:Array Edge}{g:Option (Nat×Bool)}{st:ASt}{K:ASt->Prop}{k:Box K}:aop P B N ⟨d,.call {callee:=.value f,args:=args,argTypes:=ts},t,p,es,g⟩ st (hold K k)=(ZG2 P B (ev st.fr f) (args.toList.map (ev st.fr)) st.σ (hold (fun r σ'=>ZAK N d r st.fr σ' (hold K .mk)) .mk)):=rfl
theorem ZPp {f:Operand}{args:Array Operand}{ts:Array TypeId}{fr:Frm}{σ:ZA}{K:AV->Prop}{k:Box K}:ZC6 P B (.call {callee:=.value f,args:=args,argTypes:=ts}) fr σ (hold K k)=(PCall P B (ev fr f) (args.toList.map (ev fr)) (hold K .mk)):=rfl
theorem ZOe {f : AV} {args : List AV} {σ : ZA}{K : AV -> ZA -> Prop} {k : Box K} : ZG2 P B f args σ (hold K k) = (match f with
    | .fn (.func i) first cap=>ACall P B i (first++args++cap) σ (hold K .mk)
    |_=>False):=by
  cases f<;>try rfl
theorem ZOd {f : AV} {args : List AV}{K : AV -> Prop} {k : Box K} : PCall P B f args (hold K k) = (match f with
    | .fn (.func i) first cap=>ZE8 P B i (first++args++cap) (hold K .mk)
    |_=>False):=by
  cases f<;>try rfl
theorem ZJc {r:AV}{fr:Frm}{σ:ZA}{K:ASt->Prop}{k:Box K}:ZAK N none r fr σ (hold K k)=(K ⟨fr,σ⟩):=rfl
theorem ZJb {d:Nat}{r:AV}{fr:Frm}{σ:ZA}{K:ASt->Prop}{k:Box K}(h:d<N):ZAK N (some d) r fr σ (hold K k)=K ⟨(d,r)::fr,σ⟩:=by simp[ZAK,hold,h]
theorem ZOg {ops:Array Oper}{fr:Frm}{σ:ZA}{K:Frm->Prop}{k:Box K}:aP P B N ops [] fr σ (hold K k)=(K fr):=rfl
theorem ZMX {ops:Array Oper}{bo:Box ops}{o:Oper}{rest:List Oper}{fr:Frm}{σ:ZA}{K:Frm->Prop}{k:Box K}:aP P B N (hold ops bo) (o::rest) fr σ (hold K k)=(ZAj (hold ops .mk) fr o.guard (hold (ZC6 P B o.op fr σ (hold (fun r=>ZG6 N o.dst (hold (aP P B N (hold ops .mk) rest (ZAW o.dst r fr) σ (hold K .mk)) .mk)) .mk)) .mk) (hold (ZG6 N o.dst (hold (aP P B N (hold ops .mk) rest (ZAW o.dst (.lit undef) fr) σ (hold K .mk)) .mk)) .mk)):=by rw[aP];rfl
theorem ZJf {K:Prop}{k:Box K}:ZG6 N none (hold K k)=(K):=by simp[ZG6,dOk,hold]
theorem ZJe {d:Nat}{K:Prop}{k:Box K}(h:d<N):ZG6 N (some d) (hold K k)=K:=by simp[ZG6,dOk,hold,h]
theorem ZGZ {α:Type}{l:List α}:(zA l).toList=(l):=rfl
theorem ZQr {x:Operand}{ρ:Operand->AV}{σ:ZA}{K:AV->ZA->Prop}{k:Box K}:aef P B (.move x) ρ σ (hold K k)=(K (ρ x) σ):=rfl
theorem ZMv {x:Operand}{ρ:Operand->AV}{σ:ZA}{K:AV->ZA->Prop}{k:Box K}:aef P B (.assign x) ρ σ (hold K k)=(K (ρ x) σ):=rfl
theorem ZQq {c a b : Operand}{ρ : Operand -> AV} {σ : ZA}{K : AV -> ZA -> Prop} {k : Box K} : aef P B (.pick c a b) ρ σ (hold K k) = (match ρ c with
    | .lit (.bool v)=>abr (v=true) (hold (K (ρ a) σ) .mk) (hold (K (ρ b) σ) .mk)
    |_=>False):=by
  simp only[aef,hold]
  generalize ρ c=v
  cases v<;>try rfl
  next v=>cases v<;>first|(rename_i v;cases v<;>simp[abr];done)|rfl
theorem ZO9 {t : TypeId}{ρ : Operand -> AV} {σ : ZA}{K : AV -> ZA -> Prop} {k : Box K} : aef P B (.alloc t) ρ σ (hold K k) = (match Zr P t with
    |some i=>chk (i.zero≠[]) (hold (K (.ptr σ.length 0) (σ++[ZBM t i.zero])) .mk)
    |none=>False):=rfl
theorem ZQ5 {t:TypeId}{k:IntKind}{n:Int}{r:List Value}:ZBM t (.int k n::r)=.cells ((.int k n::r).map .lit):=rfl
theorem ZPL {t:TypeId}{b:Bool}{r:List Value}:ZBM t (.bool b::r)=.cells ((.bool b::r).map .lit):=rfl
theorem ZLj {t:TypeId}{s:ByteArray}{r:List Value}:ZBM t (.string s::r)=.cells ((.string s::r).map .lit):=rfl
theorem ZM8 {t:TypeId}{a:Option Addr}{n c:Nat}{r:List Value}:ZBM t (.slice a n c::r)=.cells ((.slice a n c::r).map .lit):=rfl
theorem ZR4 {t:TypeId}{r:List Value}:ZBM t (.nilFunc::r)=.cells ((.nilFunc::r).map .lit):=rfl
theorem ZQ4 {t:TypeId}{p:Option Addr}:ZBM t [.pointer p]=.cells [.lit (.pointer p)]:=by cases p<;>rfl
theorem ZQ6 {t:TypeId}:ZBM t [.pointer none,.slice none 0 0]=.tcells (some t) [.junk,.lit (.slice none 0 0)]:=rfl
theorem ZR0 {t:TypeId}{x:Operand}{ρ:Operand->AV}{σ:ZA}{K:AV->ZA->Prop}{k:Box K}:aef P B (.box t x) ρ σ (hold K k)=(zF σ (ρ x) (hold (fun cs=>K (.ptr σ.length 0) (σ++[.cells cs])) .mk)):=rfl
theorem ZO7 {t:TypeId}{parts:Array (Nat×Operand)}{ρ:Operand->AV}{σ:ZA}{K:AV->ZA->Prop}{k:Box K}:aef P B (.build t parts) ρ σ (hold K k)=(ZBy P t σ (parts.toList.map fun p=>(p.1,ρ p.2)) (hold K .mk)):=rfl
theorem ZGo {t:TypeId}{len:Nat}{parts:Array (Nat×Operand)}{ρ:Operand->AV}{σ:ZA}{K:AV->ZA->Prop}{k:Box K}:aef P B (.buildSlice t len parts) ρ σ (hold K k)=(ZAD P B t σ len (parts.toList.map fun p=>(p.1,ρ p.2)) (hold K .mk)):=rfl
theorem ZQs {t:TypeId}{x:Operand}{ρ:Operand->AV}{σ:ZA}{K:AV->ZA->Prop}{k:Box K}:aef P B (.load t x) ρ σ (hold K k)=(ZC7 P t σ (ρ x) (hold (fun r=>K r σ) .mk)):=rfl
theorem ZO4 {t:TypeId}{a x:Operand}{ρ:Operand->AV}{σ:ZA}{K:AV->ZA->Prop}{k:Box K}:aef P B (.store t a x) ρ σ (hold K k)=(ZED P t σ (ρ a) (ρ x) (hold (fun σ'=>K (.lit undef) σ') .mk)):=rfl
theorem ZJo {x:Operand}{ρ:Operand->AV}{σ:ZA}{K:AV->ZA->Prop}{k:Box K}:aef P B (.nilCheck x) ρ σ (hold K k)=(chk (ZB2 σ (ρ x)) (hold (K (ρ x) σ) .mk)):=rfl
theorem ZO8 {op:BinOp}{t yt:TypeId}{x y:Operand}{ρ:Operand->AV}{σ:ZA}{K:AV->ZA->Prop}{k:Box K}:aef P B (.binOp op t x y yt) ρ σ (hold K k)=(ZPK P op t (ρ x) (ρ y) (hold (fun r=>K r σ) .mk)):=rfl
theorem ZQp {op:UnOp}{t:TypeId}{x:Operand}{ρ:Operand->AV}{σ:ZA}{K:AV->ZA->Prop}{k:Box K}:aef P B (.unOp op t x) ρ σ (hold K k)=(aUn op (ρ x) (hold (fun r=>K r σ) .mk)):=rfl
theorem ZLK {s d:TypeId}{x:Operand}{ρ:Operand->AV}{σ:ZA}{K:AV->ZA->Prop}{k:Box K}:aef P B (.convert s d x) ρ σ (hold K k)=(ZER P s d σ (ρ x) (hold (fun r=>K r σ) .mk)):=rfl
theorem ZJp {fn:Fn}{first cap:Array Operand}{ρ:Operand->AV}{σ:ZA}{K:AV->ZA->Prop}{k:Box K}:aef P B (.makeFunc fn first cap) ρ σ (hold K k)=(K (.fn fn (first.toList.map ρ) (cap.toList.map ρ)) σ):=rfl
theorem ZH1 {t:TypeId}{l c:Operand}{ρ:Operand->AV}{σ:ZA}{K:AV->ZA->Prop}{k:Box K}:aef P B (.makeSlice t l c) ρ σ (hold K k)=(ZAQ P B t σ (ρ l) (ρ c) (hold K .mk)):=rfl
theorem ZO5 {t:TypeId}{x:Operand}{lo hi mx:Option Operand}{ρ:Operand->AV}{σ:ZA}{K:AV->ZA->Prop}{k:Box K}:aef P B (.slice t x lo hi mx) ρ σ (hold K k)=(ZBw P t σ (ρ x) (lo.map ρ) (hi.map ρ) (mx.map ρ) (hold K .mk)):=rfl
theorem ZH3 {t:TypeId}{x:Operand}{f:Nat}{ρ:Operand->AV}{σ:ZA}{K:AV->ZA->Prop}{k:Box K}:aef P B (.fieldAddr t x f) ρ σ (hold K k)=(ZAG P t σ (ρ x) f (hold (fun r=>K r σ) .mk)):=rfl
theorem ZH2 {t:TypeId}{x i:Operand}{ρ:Operand->AV}{σ:ZA}{K:AV->ZA->Prop}{k:Box K}:aef P B (.indexAddr t x i) ρ σ (hold K k)=(Zq P t σ (ρ x) (ρ i) (hold (fun r=>K r σ) .mk)):=rfl
theorem ZO6 {t:TypeId}{x i:Operand}{ρ:Operand->AV}{σ:ZA}{K:AV->ZA->Prop}{k:Box K}:aef P B (.index t x i) ρ σ (hold K k)=(ZDJ P t (ρ x) (ρ i) (hold (fun r=>K r σ) .mk)):=rfl
theorem ZLJ {x : Operand} {i : Nat}{ρ : Operand -> AV} {σ : ZA}{K : AV -> ZA -> Prop} {k : Box K} : aef P B (.extract x i) ρ σ (hold K k) = (match ρ x with
    | .tup vs=>chk (i<vs.length) (hold (K (vs.getD i .junk) σ) .mk)
    |_=>False):=rfl
theorem ZRz {x y:Operand}{t t2:TypeId}{ρ:Operand->AV}{σ:ZA}{K:AV->ZA->Prop}{k:Box K}:aef P B (.call {callee:=.builtin .len,args:=zA [x],argTypes:=zA [t]}) ρ σ (hold K k)=(ZM7 P t σ (ρ x) (hold (fun r=>K r σ) .mk)):=rfl
theorem ZMw {x y:Operand}{t t2:TypeId}{ρ:Operand->AV}{σ:ZA}{K:AV->ZA->Prop}{k:Box K}:aef P B (.call {callee:=.builtin .append,args:=zA [x,y],argTypes:=zA [t,t2]}) ρ σ (hold K k)=(ZCA P B t t2 σ (ρ x) (ρ y) (hold K .mk)):=rfl
theorem ZRx {x y : Operand} {t t2 : TypeId}{ρ : Operand -> AV} {σ : ZA}{K : AV -> ZA -> Prop} {k : Box K} : aef P B (.call { callee := .builtin .min, args := zA [x, y], argTypes := zA [t, t2] }) ρ σ (hold K k) = (match ρ x, ρ y with
    | .lit (.int k a),.lit (.int _ b)=>K (.lit (.int k (if b<a then b else a))) σ
    |_,_=>False):=by
  simp only[aef,hold,zB,zC]
  unfold ZAs
  generalize ρ x=v;generalize ρ y=u
  cases v<;>try rfl
  next v => cases v <;> try rfl
            cases u<;>try rfl
            next u=>cases u<;>rfl
theorem ZRy {x y : Operand} {t t2 : TypeId}{ρ : Operand -> AV} {σ : ZA}{K : AV -> ZA -> Prop} {k : Box K} : aef P B (.call { callee := .builtin .max, args := zA [x, y], argTypes := zA [t, t2] }) ρ σ (hold K k) = (match ρ x, ρ y with
    | .lit (.int k a),.lit (.int _ b)=>K (.lit (.int k (if b>a then b else a))) σ
    |_,_=>False):=by
  simp only[aef,hold,zB,zC]
  unfold ZAs
  generalize ρ x=v;generalize ρ y=u
  cases v<;>try rfl
  next v => cases v <;> try rfl
            cases u<;>try rfl
            next u=>cases u<;>rfl
theorem ZMq {σ:ZA}{x:AV}{K:List AV->Prop}{k:Box K}:zF σ x (hold K k)=(match x with
  | .agg cs=>K cs
  | .lit v=>chk (ZEK v) (hold (K [.lit v]) .mk)
  | .arr es=>K [.arr es]
  | .rptr e o=>K [.rptr e o]
  | .fn f a b=>K [.fn f a b]
  | .own l n=>chk (ok1 σ (.own l n)) (hold (K [.own l n]) .mk)
  | .ptr l n=>chk (ok1 σ (.ptr l n)) (hold (K [.ptr l n]) .mk)
  | .eptr l n i o=>chk (ok1 σ (.eptr l n i o)) (hold (K [.eptr l n i o]) .mk)
  | .junk=>False
  | .pre _ _ _=>False
  | .tup _=>False):=by cases x<;>simp[zF,ok1,hold,chk]
theorem ZRu {e:List AV}{off n:Nat}{K:List AV->Prop}{k:Box K}:rdE e off n (hold K k)=(if off=0/\n=e.length then K e else chk (off+n<=e.length) (hold (K ((e.drop off).take n)) .mk)):=rfl
theorem ZRt {σ:ZA}{p:AV}{n:Nat}{K:List AV->Prop}{k:Box K}:rdN σ p n (hold K k)=(match p with
  | .rptr e off=>rdE e off n (hold K .mk)
  | .ptr l off=>match σ[l]? with
    |some (.cells cs)=>rdE cs off n (hold K .mk)
    |_=>False
  | .eptr l k i off=>match σ[l]? with
    |some (.elems _ es)=>chk (es.length=k) (hold (chk (i<es.length) (hold (rdE (es.getD i []) off n (hold K .mk)) .mk)) .mk)
    |_=>False
  |_=>False):=rfl
theorem ZRv {σ:ZA}{p:AV}{K:AV->Prop}{k:Box K}:rd1 σ p (hold K k)=(match p with
  | .rptr e off=>chk (off<e.length) (hold (K (e.getD off .junk)) .mk)
  | .ptr l off=>match σ[l]? with
    |some (.cells cs)=>chk (off<cs.length) (hold (K (cs.getD off .junk)) .mk)
    |_=>False
  | .eptr l k i off=>match σ[l]? with
    |some (.elems _ es)=>chk (es.length=k) (hold (chk (i<es.length) (hold (chk (off<(es.getD i []).length) (hold (K ((es.getD i []).getD off .junk)) .mk)) .mk)) .mk)
    |_=>False
  |_=>False):=rfl
theorem ZOz {σ:ZA}{t:TypeId}{p:AV}{K:AV->Prop}{k:Box K}:ZC7 P t σ p (hold K k)=(match Zr P t with
  |some i=>if i.sh.isAgg then rdN σ p i.size (hold (fun cs=>K (.agg cs)) .mk)else rd1 σ p (hold K .mk)
  |none=>False):=rfl
theorem ZRs {e cs:List AV}{off:Nat}{K:List AV->Prop}{k:Box K}:wrE e off cs (hold K k)=(if off=0/\cs.length=e.length then K cs
  else chk (off+cs.length<=e.length) (hold (K (e.take off++cs++e.drop (off+cs.length))) .mk)):=rfl
theorem ZRr {σ:ZA}{p:AV}{cs:List AV}{K:ZA->Prop}{k:Box K}:wrN σ p cs (hold K k)=(match p with
  | .ptr l off=>match σ[l]? with
    |some (.cells old)=>wrE old off cs (hold (fun new=>K (σ.set l (.cells new))) .mk)
    |_=>False
  | .eptr l k i off=>match σ[l]? with
    |some (.elems sz es)=>chk (es.length=k) (hold (chk (i<es.length) (hold (wrE (es.getD i []) off cs (hold (fun new=>K (σ.set l (.elems sz (es.set i (new.map (nzs σ)))))) .mk)) .mk)) .mk)
    |_=>False
  |_=>False):=rfl
theorem ZMr {σ:ZA}{t:TypeId}{p v:AV}{K:ZA->Prop}{k:Box K}:ZED P t σ p v (hold K k)=(match Zr P t with
  |some i=>zF σ v (hold (fun cs=>chk (cs.length=i.size) (hold (chk (Zm σ cs) (hold (wrN σ p cs (hold K .mk)) .mk)) .mk)) .mk)
  |none=>False):=rfl
theorem ZGm {σ:ZA}{t:TypeId}{p:AV}{f:Nat}{K:AV->Prop}{k:Box K}:ZAG P t σ p f (hold K k)=(match Zr P t with
  |some ⟨.struct offs,_,_⟩=>match offs[f]? with
    |some (o,s+1)=>chk (ZB2 σ p) (hold (K (p.adv o)) .mk)
    |_=>False
  |_=>False):=rfl
theorem ZGk {σ:ZA}{t:TypeId}{x i:AV}{K:AV->Prop}{k:Box K}:Zq P t σ x i (hold K k)=(match i,Zr P t with
  | .lit (.int _ n),some ⟨.slice sz _ _,_,_⟩=>match x with
    | .arr es=>chk (0<=n) (hold (chk (n.toNat<es.length) (hold (chk ((es.getD n.toNat []).length=sz) (hold (K (.rptr (es.getD n.toNat []) 0)) .mk)) .mk)) .mk)
    | .own l k=>match σ[l]? with
      |some (.elems sz' es)=>chk (es.length=k) (hold (chk (sz'=sz) (hold (chk (0<=n) (hold (chk (n.toNat<k) (hold (K (.eptr l k n.toNat 0)) .mk)) .mk)) .mk)) .mk)
      |_=>False
    |_=>False
  | .lit (.int _ n),some ⟨.array len (sz+1),_,_⟩=>chk (0<=n) (hold (chk (n.toNat<len) (hold (chk (ZB2 σ x) (hold (K (x.adv (n.toNat*(sz+1)))) .mk)) .mk)) .mk)
  |_,_=>False):=rfl
theorem ZMt {t:TypeId}{x i:AV}{K:AV->Prop}{k:Box K}:ZDJ P t x i (hold K k)=(match x,i with
  | .lit (.string s),.lit (.int _ n)=>chk (P.underlying t=some .string) (hold (chk (0<=n) (hold (chk (n.toNat<s.size) (hold (K (.lit (.int .u8 (byteAt s n.toNat)))) .mk)) .mk)) .mk)
  | .agg cs,.lit (.int _ n)=>match P.underlying t with
    |some (.array len e)=>match Zr P e with
      |some j=>chk (j.sh.isAgg=false) (hold (chk (j.size=1) (hold (chk (len=cs.length) (hold (chk (0<=n) (hold (chk (n.toNat<len) (hold (K (cs.getD n.toNat .junk)) .mk)) .mk)) .mk)) .mk)) .mk)
      |none=>False
    |_=>False
  |_,_=>False):=rfl
theorem ZQn {σ:ZA}{t:TypeId}{x:AV}{K:AV->Prop}{k:Box K}:ZM7 P t σ x (hold K k)=(match P.underlying t with
  |some (.slice _)=>match x with
    | .arr es=>K (.lit (.int .i64 es.length))
    | .lit (.slice none 0 0)=>K (.lit (.int .i64 0))
    | .own l k=>K (.lit (.int .i64 k))
    |_=>False
  |some .string=>match x with
    | .lit (.string s)=>K (.lit (.int .i64 s.size))
    |_=>False
  |some (.array n _)=>K (.lit (.int .i64 n))
  |_=>False):=rfl
theorem ZMp {σ:ZA}{x:AV}{K:List (List AV)->Prop}{k:Box K}:ZDI σ x (hold K k)=(match x with
  | .arr es=>K es
  | .lit (.slice none 0 0)=>K []
  | .lit (.slice (some _) 0 _)=>K []
  | .own l k=>match σ[l]? with
    |some (.elems _ es)=>chk (es.length=k) (hold (K es) .mk)
    |_=>False
  |_=>False):=rfl
theorem ZLI {σ:ZA}{t t2:TypeId}{s x:AV}{K:AV->ZA->Prop}{k:Box K}:ZCA P B t t2 σ s x (hold K k)=(match Zr P t,P.underlying t2 with
  |some ⟨.slice sz bytes zs,_,_⟩,some (.slice _)=>
    chk (zs.length=sz) (hold (chk (sz≠0) (hold (chk (bytes≠0) (hold (ZDI σ x (hold (fun new=>chk (ZFV sz new) (hold (chk (ZBN σ new) (hold (
      match s with
      | .lit (.slice none 0 0) => chk (new.length <= bd B) (hold (chk ((2 * new.length + 1024) * bytes <= 281474976710656) (hold (
          K (.own σ.length new.length) (σ++[.elems sz new])) .mk)) .mk)
      | .own l n=>match σ[l]? with
        | some (.elems sz' es) => chk (es.length = n) (hold (chk (sz' = sz) (hold (chk (n + new.length <= bd B) (hold (chk ((2 * (n + new.length) + 1024) * bytes <= 281474976710656) (hold (
            K (.own l (n+new.length)) (σ.set l (.elems sz (es++new)))) .mk)) .mk)) .mk)) .mk)
        |_=>False
      |_=>False) .mk)) .mk)) .mk)) .mk)) .mk)) .mk)
  |_,_=>False):=rfl
theorem ZQo {op:BinOp}{t:TypeId}{x y:AV}{K:AV->Prop}{k:Box K}:ZPK P op t x y (hold K k)=(match x,y with
  | .lit (.int k a),.lit (.int k' b)=>chk (k=k') (hold (match op with
    | .add=>K (.lit (.int k (k.wrap (a+b))))
    | .sub=>K (.lit (.int k (k.wrap (a-b))))
    | .mul=>K (.lit (.int k (k.wrap (a*b))))
    | .quo=>chk (b≠0) (hold (K (.lit (.int k (k.wrap (a.tdiv b))))) .mk)
    | .rem=>chk (b≠0) (hold (K (.lit (.int k (a.tmod b)))) .mk)
    | .eql=>K (.lit (.bool (a==b)))
    | .neq=>K (.lit (.bool (a !=b)))
    | .lss=>K (.lit (.bool (a<b)))
    | .leq=>K (.lit (.bool (a<=b)))
    | .gtr=>K (.lit (.bool (a>b)))
    | .geq=>K (.lit (.bool (a≥b)))
    | .xor=>K (.lit (.int k (ZPX k a b)))
    |_=>False) .mk)
  | .lit (.string a),.lit (.string b)=>match op with
    | .add=>chk ((a.size+b.size:Nat)<=9223372036854775807) (hold (K (.lit (.string (a++b)))) .mk)
    | .eql=>K (.lit (.bool (a.toList==b.toList)))
    | .neq=>K (.lit (.bool (!(a.toList==b.toList))))
    |_=>False
  | .lit (.bool a),.lit (.bool b)=>chk (P.underlying t=some .bool) (hold (match op with
    | .eql=>K (.lit (.bool (a==b)))
    | .neq=>K (.lit (.bool (!(a==b))))
    |_=>False) .mk)
  | .agg xs,.agg ys=>match ZA0 xs,ZA0 ys with
    |some p,some q=>chk (ZCR P t=true) (hold (match op with
      | .eql=>K (.lit (.bool (dec (eq2 p q))))
      | .neq=>K (.lit (.bool (!dec (eq2 p q))))
      |_=>False) .mk)
    |_,_=>match ZBQ xs,ZBQ ys with
      |some p,some q=>chk (ZDB P t=true) (hold (match op with
        | .eql=>K (.lit (.bool (dec (eq3 p q))))
        | .neq=>K (.lit (.bool (!dec (eq3 p q))))
        |_=>False) .mk)
      |_,_=>match ZCJ xs,ZCJ ys with
        |some p,some q=>chk (ZEb P t=true) (hold (match op with
          | .eql=>K (.lit (.bool (dec (eq4 p q))))
          | .neq=>K (.lit (.bool (!dec (eq4 p q))))
          |_=>False) .mk)
        |_,_=>False
  | .arr es,.lit (.slice none 0 0)=>chk (ZFX P t=true) (hold (chk (es≠[]) (hold (match op with
    | .eql=>K (.lit (.bool false))
    | .neq=>K (.lit (.bool true))
    |_=>False) .mk)) .mk)
  | .lit (.slice a n c),.lit (.slice none 0 0)=>chk (ZFX P t=true) (hold (match op with
    | .eql=>K (.lit (.bool a.isNone))
    | .neq=>K (.lit (.bool (!a.isNone)))
    |_=>False) .mk)
  |_,_=>False):=rfl
theorem ZRw {op:UnOp}{x:AV}{K:AV->Prop}{k:Box K}:aUn op x (hold K k)=(match op,x with
  | .not,.lit (.bool b)=>K (.lit (.bool (!b)))
  | .neg,.lit (.int k n)=>K (.lit (.int k (k.wrap (0-n))))
  |_,_=>False):=rfl
theorem ZO0 {s d:TypeId}{σ:ZA}{x:AV}{K:AV->Prop}{k:Box K}:ZER P s d σ x (hold K k)=(match P.underlying s,P.underlying d,x with
  |some (.int _),some (.int k),.lit (.int _ n)=>K (.lit (.int k (k.wrap n)))
  |some (.slice e),some .string,.arr es=>chk (ZBJ P (some (.slice e))=true) (hold (match u8s es with
    |some ns=>K (.lit (.string (ZDC ns)))
    |none=>False) .mk)
  |some (.slice e),some .string,.own l n=>chk (ZBJ P (some (.slice e))=true) (hold (match σ[l]? with
    |some (.elems _ es)=>chk (es.length=n) (hold (match u8s es with
      |some ns=>K (.lit (.string (ZDC ns)))
      |none=>False) .mk)
    |_=>False) .mk)
  |_,_,_=>False):=rfl
theorem ZLH {σ:ZA}{K:List AV->ZA->Prop}{k:Box K}:frz σ [] (hold K k)=(K [] σ):=id rfl
theorem ZJj {σ:ZA}{x:AV}{r:List AV}{K:List AV->ZA->Prop}{k:Box K}:frz σ (x::r) (hold K k)=(match x with
  | .own l n=>(match σ[l]? with
    |some (.elems _ es)=>chk (es.length=n) (hold (chk (Zg es) (hold (frz (σ.set l .dead) r (hold (fun r' σ'=>K (.arr es::r') σ') .mk)) .mk)) .mk)
    |_=>False)
  | .lit v=>frz σ r (hold (fun r' σ'=>K (.lit v::r') σ') .mk)
  | .arr v=>frz σ r (hold (fun r' σ'=>K (.arr v::r') σ') .mk)
  |y=>frz σ r (hold (fun r' σ'=>K (y::r') σ') .mk)):=by
  simp only[hold]
  cases x with
  |own l n=>simp only[frz];generalize σ[l]? =ob;rcases ob with _|(_|⟨(_|_),cs⟩|⟨(_|_),sz,es⟩)<;>rfl
  |_=>rfl
theorem ZJi {σ:ZA}{K:List (List AV)->ZA->Prop}{k:Box K}:ZMe σ [] (hold K k)=(K [] σ):=id rfl
theorem ZHv {σ:ZA}{x:List AV}{r:List (List AV)}{K:List (List AV)->ZA->Prop}{k:Box K}:ZMe σ (x::r) (hold K k)=(frz σ x (hold (fun e' σ'=>ZMe σ' r (hold (fun r' σ''=>K (e'::r') σ'') .mk)) .mk)):=id rfl
theorem ZQl {σ:ZA}{x:AV}{K:AV->ZA->Prop}{k:Box K}:ZHl σ x (hold K k)=(match x with
  | .agg cs=>frz σ cs (hold (fun cs' σ'=>K (.agg cs') σ') .mk)
  | .own l n=>(match σ[l]? with
    |some (.elems _ es)=>chk (es.length=n) (hold (chk (Zg es) (hold (K (.arr es) (σ.set l .dead)) .mk)) .mk)
    |_=>False)
  | .lit v=>K (.lit v) σ
  | .arr v=>K (.arr v) σ
  |y=>K y σ):=by cases x<;>rfl
theorem ZJl {σ:ZA}{K:List AV->ZA->Prop}{k:Box K}:ZLC σ [] (hold K k)=(K [] σ):=rfl
theorem ZHx {σ:ZA}{x:AV}{r:List AV}{K:List AV->ZA->Prop}{k:Box K}:ZLC σ (x::r) (hold K k)=(ZHl σ x (hold (fun x' σ'=>ZLC σ' r (hold (fun r' σ''=>K (x'::r') σ'') .mk)) .mk)):=rfl
theorem ZQk {σ:ZA}{x:AV}{K:AV->ZA->Prop}{k:Box K}:ZLp σ x (hold K k)=(match x with
  | .tup xs=>ZLC σ xs (hold (fun xs' σ'=>K (.tup xs') σ') .mk)
  | .lit v=>K (.lit v) σ
  | .arr v=>K (.arr v) σ
  |y=>ZHl σ y (hold K .mk)):=by cases x<;>rfl
theorem ZJn {σ:ZA}{fr:Frm}{K:List AV->Prop}{k:Box K}:ZEH P σ fr [] (hold K k)=(K []):=rfl
theorem ZJm {σ:ZA}{fr:Frm}{t:Nat}{r:List ResultVar}{K:List AV->Prop}{k:Box K}:ZEH P σ fr (.tmp t::r) (hold K k)=(ZEH P σ fr r (hold (fun xs=>K (lk fr t::xs)) .mk)):=rfl
theorem ZHy {σ:ZA}{fr:Frm}{a:Nat}{t:TypeId}{r:List ResultVar}{K:List AV->Prop}{k:Box K}:ZEH P σ fr (.cell a t::r) (hold K k)=(ZC7 P t σ (lk fr a) (hold (fun x=>ZEH P σ fr r (hold (fun xs=>K (x::xs)) .mk)) .mk)):=rfl
theorem ZHz {place:Nat->Option (Nat×Nat)}{σ:ZA}{cs:List AV}{K:List AV->Prop}{k:Box K}:ZBb place σ cs [] (hold K k)=(K cs):=rfl
theorem ZGl {place : Nat -> Option (Nat × Nat)}{σ : ZA}{cs : List AV} {i : Nat} {x : AV} {rest : List (Nat × AV)}{K : List AV -> Prop} {k : Box K} : ZBb place σ cs ((i, x) :: rest) (hold K k) = (match place i with
    |some (off,size)=>zF σ x (hold (fun new=>chk (new.length=size) (hold (wrE cs off new (hold (fun cs'=>ZBb place σ cs' rest (hold K .mk)) .mk)) .mk)) .mk)
    |none=>False):=rfl
theorem ZMu {σ:ZA}{t:TypeId}{ps:List (Nat×AV)}{K:AV->ZA->Prop}{k:Box K}:ZBy P t σ ps (hold K k)=(match Zr P t with
  |some ⟨.struct offs,_,z⟩=>chk ((∀p,p∈offs->p.2≠0)) (hold (chk (z≠[]) (hold (ZBb (fun i=>offs[i]?) σ (z.map .lit) ps (hold (fun cs=>bfrz σ cs (hold (fun cs' σ'=>K (.agg cs') σ') .mk)) .mk)) .mk)) .mk)
  |_=>False):=rfl
theorem ZQm {σ:ZA}{cs:List AV}{K:List AV->ZA->Prop}{k:Box K}:bfrz σ cs (hold K k)=(if σ.any isM=true then K cs σ else frz σ cs (hold K .mk)):=rfl
theorem ZOy {σ:ZA}{es:List (List AV)}{K:List (List AV)->ZA->Prop}{k:Box K}:bfrzs σ es (hold K k)=(if σ.any isK=true/\σ.any isP=true then K es σ else ZMe σ es (hold K .mk)):=rfl
theorem ZGW {n:Nat}{es:List (List AV)}:isK (.elems n es)=decide (n=0):=by cases n<;>rfl
theorem ZGX {cs:List AV}:isK (.cells cs)=false:=rfl
theorem ZIj :isK .dead=false:=rfl
theorem ZIi {xs:List AV}{vs:List Value}:isK (.pack xs vs)=false:=rfl
theorem ZGU {n:Nat}{es:List (List AV)}:isP (.elems n es)=false:=rfl
theorem ZGV {cs:List AV}:isP (.cells cs)=false:=rfl
theorem ZIh :isP .dead=false:=rfl
theorem ZIg {xs:List AV}{vs:List Value}:isP (.pack xs vs)=true:=rfl
theorem ZK6 {n:Nat}{es:List (List AV)}:isM (.elems n es)=decide (n=0):=by cases n<;>rfl
theorem ZK7 {cs:List AV}:isM (.cells cs)=false:=rfl
theorem ZMV :isM .dead=false:=rfl
theorem ZMU {xs:List AV}{vs:List Value}:isM (.pack xs vs)=true:=rfl
theorem ZJZ {n:Nat}{es:List (List AV)}:ZQV (.elems n es)=false:=rfl
theorem ZJa {cs:List AV}:ZQV (.cells cs)=false:=rfl
theorem ZK5 :ZQV .dead=false:=rfl
theorem ZK4 {xs:List AV}{vs:List Value}:ZQV (.pack xs vs)=true:=rfl
theorem ZGn {σ:ZA}{sz j:Nat}{K:List (List AV)->Prop}{k:Box K}:ZBx σ sz j [] (hold K k)=(K []):=rfl
theorem ZFb {σ:ZA}{sz j i:Nat}{x:AV}{rest:List (Nat×AV)}{K:List (List AV)->Prop}{k:Box K}:ZBx σ sz j ((i,x)::rest) (hold K k)=(chk (i=j) (hold (zF σ x (hold (fun e=>chk (e.length=sz) (hold (ZBx σ sz (j+1) rest (hold (fun es=>K (e.map (nzs σ)::es)) .mk)) .mk)) .mk)) .mk)):=rfl
theorem ZFc {σ:ZA}{t:TypeId}{len:Nat}{ps:List (Nat×AV)}{K:AV->ZA->Prop}{k:Box K}:ZAD P B t σ len ps (hold K k)=(match Zr P t with
  |some ⟨.slice sz _ z,_,_⟩=>chk (ps.length=len) (hold (chk (len*sz<=16777216) (hold (chk (len<=bd B) (hold (chk (z.length=sz) (hold (chk (sz≠0) (hold (ZBx σ sz 0 ps (hold (fun es=>bfrzs σ es (hold (fun es' σ'=>K (.own σ'.length len) (σ'++[.elems sz es'])) .mk)) .mk)) .mk)) .mk)) .mk)) .mk)) .mk)
  |_=>False):=rfl
theorem ZGj {σ:ZA}{t:TypeId}{l c:AV}{K:AV->ZA->Prop}{k:Box K}:ZAQ P B t σ l c (hold K k)=(match Zr P t,l,c with
  |some ⟨.slice sz bytes z,_,_⟩,.lit (.int _ n),.lit (.int _ n')=>chk (n=n') (hold (chk (0<=n) (hold (chk (n<=9223372036854775807) (hold (chk (bytes*n<=281474976710656) (hold (chk (n.toNat<=bd B) (hold (chk (z.length=sz) (hold (chk (sz≠0) (hold (K (.own σ.length n.toNat) (σ++[.elems sz (List.replicate n.toNat ((z.map .lit).map (nzs σ)))])) .mk)) .mk)) .mk)) .mk)) .mk)) .mk)) .mk)
  |_,_,_=>False):=rfl
theorem ZMo {x:Option AV}{d:Nat}{K:Nat->Prop}{k:Box K}:ZAh x d (hold K k)=(match x with
  |none=>K d
  |some (.lit (.int _ n))=>chk (0<=n) (hold (K n.toNat) .mk)
  |_=>False):=rfl
theorem ZMs {σ:ZA}{t:TypeId}{x:AV}{lo hi mx:Option AV}{K:AV->ZA->Prop}{k:Box K}:ZBw P t σ x lo hi mx (hold K k)=(match x,mx with
  | .lit (.string s),none=>chk (P.underlying t=some .string) (hold (
    ZAh lo 0 (hold (fun l=>ZAh hi s.size (hold (fun h=>chk (l<=h) (hold (chk (h<=s.size) (hold (K (.lit (.string (s.extract l h))) σ) .mk)) .mk)) .mk)) .mk)) .mk)
  | .arr es,none=>match Zr P t with
    |some ⟨.slice sz _ _,_,_⟩=>chk (ZFV sz es) (hold (
      ZAh lo 0 (hold (fun l=>ZAh hi es.length (hold (fun h=>chk (l<=h) (hold (chk (h<=es.length) (hold (K (.arr ((es.drop l).take (h-l))) σ) .mk)) .mk)) .mk)) .mk)) .mk)
    |_=>False
  | .own l n,none=>match lo,Zr P t with
    |none,some ⟨.slice _ _ _,_,_⟩=>ZAh hi n (hold (fun h=>chk (h<=n) (hold (K (.pre l n h) σ) .mk)) .mk)
    |_,_=>False
  |_,_=>False):=rfl
theorem ZOx {σ:ZA}{x:AV}:ZB2 σ x=(match x with
  | .rptr _ _=>True
  | .ptr l _=>match σ[l]? with
    |some (.cells _)=>True
    |_=>False
  | .eptr l k _ _=>match σ[l]? with
    |some (.elems _ es)=>es.length=k/\es≠[]
    |_=>False
  |_=>False):=rfl
end
attribute [simp ↓] ZFq ZEQ ZMz ZL3 ZRS ZPj ZFF ZJD ZHL
  ZQX ZMW ZQa ZRl ZQb ZOf ZQY ZQZ ZRm ZL1 ZRO ZPg ZM0 ZR2 ZQ1 ZRV ZMC ZLA ZJd ZHj ZHi ZP9 ZPn ZMI ZL5 ZP8 ZPm ZOS ZN7 ZRX ZRT ZOQ ZN5 ZGJ ZF8 ZQA ZPo ZON ZN2 ZJU ZJF ZOR ZN6 ZP7 ZPl ZKu ZKQ ZJV ZJG ZHX ZHM ZOO ZN3 ZHZ ZHO ZHY ZHN ZOP ZN4 ZKt ZKP ZKv ZKR ZQB ZPp ZOe ZOd ZJc ZJb ZOg ZMX ZJf ZJe ZGZ ZQr ZMv ZQq ZO9 ZQ5 ZPL ZLj ZM8 ZR4 ZQ4 ZQ6 ZR0 ZO7 ZGo ZQs ZO4 ZJo ZO8 ZQp ZLK ZJp ZH1 ZO5 ZH3 ZH2 ZO6 ZLJ ZRz ZMw ZRx ZRy ZMq ZRu ZRt ZRv ZOz ZRs ZRr ZMr ZGm ZGk ZMt ZQn ZMp ZLI ZQo ZRw ZO0 ZLH ZJj ZJi ZHv ZQl ZJl ZHx ZQk ZJn ZJm ZHy ZHz ZGl ZMu ZQm ZOy ZGW ZGX ZIj ZIi ZGU ZGV ZIh ZIg ZGn ZFb ZFc ZGj ZMo ZMs ZOx
attribute [simp] ZI0 ZHA ZQ9 u8s ZBJ
attribute [simp] ZGW ZGX ZIj ZIi ZGU ZGV ZIh ZIg ZK6 ZK7 ZMV ZMU ZJZ ZJa ZK5 ZK4 nzs
attribute [simp] nz AV.le AV.le.les ZMg ZEI Blk.le pack ZEc Blk.closed Zn ZMh AV.bnd AV.bnd.bnds ev ZCX lk AV.adv Sh.isAgg ZAW
theorem ZQy {n:Nat}{v:Value}:zD n (.lit v)↔True:=by simp[zD]
theorem ZPD {n:Nat}:zD n .junk↔True:=by simp[zD]
theorem ZQz {n:Nat}{es:List (List AV)}:zD n (.arr es)↔True:=by simp[zD]
theorem ZPC {n:Nat}{e:List AV}{o:Nat}:zD n (.rptr e o)↔True:=by simp[zD]
theorem ZQw {n l i k:Nat}:zD n (.pre l i k)↔l<n:=by simp[zD]
theorem ZQx {n l k:Nat}:zD n (.own l k)↔l<n:=by simp[zD]
theorem ZQv {n l k:Nat}:zD n (.ptr l k)↔l<n:=by simp[zD]
theorem ZPE {n l k i o:Nat}:zD n (.eptr l k i o)↔l<n:=by simp[zD]
theorem ZQ0 {n:Nat}{cs:List AV}:zD n (.agg cs)↔zD.closeds n cs:=by simp[zD]
theorem ZQu {n:Nat}{cs:List AV}:zD n (.tup cs)↔zD.closeds n cs:=by simp[zD]
theorem ZR1 {n:Nat}{f:Fn}{xs ys:List AV}:zD n (.fn f xs ys)↔zD.closeds n xs/\zD.closeds n ys:=by simp[zD]
theorem ZPA {n:Nat}:zD.closeds n []↔True:=by simp[zD.closeds]
theorem ZMy {n:Nat}{x:AV}{r:List AV}:zD.closeds n (x::r)↔x.closed n/\zD.closeds n r:=by simp[zD.closeds]
theorem ZPv {v:Value}:zE (.lit v)↔True:=by simp[zE]
theorem ZOA :zE .junk↔True:=by simp[zE]
theorem ZPw {es:List (List AV)}:zE (.arr es)↔True:=by simp[zE]
theorem ZN9 {e:List AV}{o:Nat}:zE (.rptr e o)↔True:=by simp[zE]
theorem ZPt {l i k:Nat}:zE (.pre l i k)↔False:=by simp[zE]
theorem ZPu {l k:Nat}:zE (.own l k)↔False:=by simp[zE]
theorem ZPs {l k:Nat}:zE (.ptr l k)↔False:=by simp[zE]
theorem ZPx {cs:List AV}:zE (.agg cs)↔zE.pures cs:=by simp[zE]
theorem ZPr {cs:List AV}:zE (.tup cs)↔zE.pures cs:=by simp[zE]
theorem ZRU {f:Fn}{xs ys:List AV}:zE (.fn f xs ys)↔zE.pures xs/\zE.pures ys:=by simp[zE]
theorem ZN8 :zE.pures []↔True:=by simp[zE.pures]
theorem ZL6 {x:AV}{r:List AV}:zE.pures (x::r)↔x.pure/\zE.pures r:=by simp[zE.pures]
theorem ZMG {b:Bool}:ZEK (.bool b)↔True:=by simp[ZEK]
theorem ZOJ {k:IntKind}{b:Int}:ZEK (.int k b)↔True:=by simp[ZEK]
theorem ZJQ {b:ByteArray}:ZEK (.string b)↔True:=by simp[ZEK]
theorem ZKn {a:Option Addr}{l c:Nat}:ZEK (.slice a l c)↔True:=by simp[ZEK]
theorem ZHV {a:Option Addr}:ZEK (.pointer a)↔True:=by simp[ZEK]
theorem ZOI {a:Option Nat}:ZEK (.map a)↔True:=by simp[ZEK]
theorem ZHW :ZEK .nilFunc↔True:=by simp[ZEK]
theorem ZP5 {σ:ZA}{v:Value}:ok1 σ (.lit v)↔ZEK v:=by simp[ok1]
theorem ZP6 {σ:ZA}{es:List (List AV)}:ok1 σ (.arr es)↔True:=by simp[ok1]
theorem ZOL {σ:ZA}{e:List AV}{o:Nat}:ok1 σ (.rptr e o)↔True:=by simp[ok1]
theorem ZRW {σ:ZA}{f:Fn}{xs ys:List AV}:ok1 σ (.fn f xs ys)↔True:=by simp[ok1]
theorem ZP4 {σ:ZA}{l n:Nat}:ok1 σ (.own l n)=(match σ[l]? with|some (.elems _ es)=>es.length=n|_=>False):=rfl
theorem ZP3 {σ:ZA}{l n:Nat}:ok1 σ (.ptr l n)=(match σ[l]? with|some (.cells _)=>True|_=>False):=rfl
theorem ZOM {σ:ZA}{l n i o:Nat}:ok1 σ (.eptr l n i o)=(match σ[l]? with|some (.elems _ es)=>es.length=n/\es≠[]|_=>False):=rfl
theorem ZOK {σ:ZA}:Zm σ []↔True:=by simp[Zm]
theorem ZMH {σ:ZA}{x:AV}{r:List AV}:Zm σ (x::r)↔ok1 σ x/\Zm σ r:=by simp[Zm]
attribute [simp] ZQw ZPt ZQy ZPD ZQz ZPC ZQx ZQv ZPE ZQ0 ZQu ZR1 ZPA ZMy ZPv ZOA ZPw ZN9 ZPu ZPs ZPx ZPr ZRU ZN8 ZL6 ZMG ZOJ ZJQ ZKn ZHV ZOI ZHW ZP5 ZP6 ZOL ZRW ZP4 ZP3 ZOM ZOK ZMH
end Go.Vl
