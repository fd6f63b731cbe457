/- The value-level layer, part 20: the steps of code as rules for simp, which stops at what it cannot decide. Always 'simp -dsimp'. -/
import Derived.Test.YtojdombnghnbmaaVlStep
set_option linter.unusedSimpArgs false
set_option linter.unusedVariables false
namespace Go.Vl
open Go Go.RowKit
section
variable {P : Program} {B nb N : Nat}
theorem h_skip {Q:Exit→ASt→Prop}{q:Box Q}{st:ASt}:awp P B nb N .skip st (hold Q q)=(Q .normal st):=rfl
theorem h_region {Q:Exit→ASt→Prop}{q:Box Q}{st:ASt}{id:Nat}{l:List Oper}:awp P B nb N (.region id (List.toArray l) false) st (hold Q q)=(aops P B N (hold (List.toArray l) .mk) l st (hold (Q .normal) .mk)):=by simp only[awp,Bool.false_eq_true,if_false,hold]
theorem h_draw {Q:Exit→ASt→Prop}{q:Box Q}{st:ASt}{id:Nat}{ops:Array Oper}:awp P B nb N (.region id ops true) st (hold Q q)=(ADraw P B nb N (hold ops .mk) st (hold (Q .normal) .mk)):=by simp only[awp,if_true,hold]
theorem h_seq {Q:Exit→ASt→Prop}{q:Box Q}{st:ASt}{a b:Code}:awp P B nb N (.seq a b) st (hold Q q)=(awp P B nb N a st (hold (seqK P B nb N b Q) .mk)):=by simp only[hold];rw[awp];congr
theorem h_cond {Q : Exit → ASt → Prop} {q : Box Q}{st : ASt}{c : Operand} {a b : Code} : awp P B nb N (.cond c a b) st (hold Q q) = (match ev st.fr c with
    | .lit (.bool v)=>abr (v=true) (hold (awp P B nb N a st (hold Q .mk)) .mk) (hold (awp P B nb N b st (hold Q .mk)) .mk)
    |_=>False):=by
  simp only[awp,hold]
  generalize ev st.fr c=v
  cases v<;>try rfl
  next v=>cases v<;>first|exact abr_ite.symm|rfl
theorem h_block {Q:Exit→ASt→Prop}{q:Box Q}{st:ASt}{id:Nat}{c:Code}:awp P B nb N (.block id c) st (hold Q q)=(awp P B nb N c st (hold (blockK id Q) .mk)):=by simp only[hold];rw[awp];congr
theorem h_loop {Q:Exit→ASt→Prop}{q:Box Q}{st:ASt}{c:Code}:awp P B nb N (.loop c) st (hold Q q)=(ALoop P B nb N (hold c .mk) st (hold Q .mk)):=rfl
theorem h_exit {Q:Exit→ASt→Prop}{q:Box Q}{st:ASt}{i:Nat}:awp P B nb N (.exit i) st (hold Q q)=(Q (.exit i) st):=rfl
theorem h_ret {Q:Exit→ASt→Prop}{q:Box Q}{st:ASt}:awp P B nb N .ret st (hold Q q)=(Q .ret st):=rfl
theorem r_normal {c:Code}{bc:Box c}{Q:Exit→ASt→Prop}{bQ:Box Q}{st:ASt}:roundU P B nb N (hold c bc) (hold Q bQ) .normal st=Again P B nb N (hold c .mk) (hold Q .mk) st:=rfl
theorem r_ret {c:Code}{bc:Box c}{Q:Exit→ASt→Prop}{bQ:Box Q}{st:ASt}:roundU P B nb N (hold c bc) (hold Q bQ) .ret st=Leave B nb N (hold Q .mk) .ret st:=rfl
theorem r_exit {c:Code}{bc:Box c}{Q:Exit→ASt→Prop}{bQ:Box Q}{i:Nat}{st:ASt}:roundU P B nb N (hold c bc) (hold Q bQ) (.exit i) st=Leave B nb N (hold Q .mk) (.exit i) st:=rfl
theorem s_normal {Q:Exit→ASt→Prop}{st:ASt}{b:Code}:seqK P B nb N b Q .normal st=(awp P B nb N b st (hold Q .mk)):=rfl
theorem s_ret {Q:Exit→ASt→Prop}{st:ASt}{b:Code}:seqK P B nb N b Q .ret st=(Q .ret st):=rfl
theorem s_exit {Q:Exit→ASt→Prop}{st:ASt}{b:Code}{i:Nat}:seqK P B nb N b Q (.exit i) st=(Q (.exit i) st):=rfl
theorem b_normal {Q:Exit→ASt→Prop}{st:ASt}{i:Nat}:blockK i Q .normal st=(Q .normal st):=rfl
theorem b_ret {Q:Exit→ASt→Prop}{st:ASt}{i:Nat}:blockK i Q .ret st=(Q .ret st):=rfl
theorem b_exit {Q:Exit→ASt→Prop}{st:ASt}{i j:Nat}:blockK i Q (.exit j) st=(if j=i then Q .normal st else Q (.exit j) st):=rfl
theorem p_ret {fn:Func}{K:AV→Store→Prop}{st:ASt}:Post P fn K .ret st=(ares P st.σ st.fr fn.results.toList (hold (fun xs=>frzR st.σ (pack xs) (hold K .mk)) .mk)):=rfl
theorem p_normal {fn:Func}{K:AV→Store→Prop}{st:ASt}:Post P fn K .normal st=(ares P st.σ st.fr fn.results.toList (hold (fun xs=>frzR st.σ (pack xs) (hold K .mk)) .mk)):=rfl
theorem h_ops_nil {K:ASt→Prop}{k:Box K}{st:ASt}{ops:Array Oper}:aops P B N ops [] st (hold K k)=(K st):=rfl
theorem h_ops_cons {K:ASt→Prop}{k:Box K}{st:ASt}{ops:Array Oper}{bo:Box ops}{o:Oper}{rest:List Oper}:aops P B N (hold ops bo) (o::rest) st (hold K k)=(awant (hold ops .mk) st.fr o.guard (hold (aop P B N o st (hold (fun st'=>aops P B N (hold ops .mk) rest st' (hold K .mk)) .mk)) .mk) (hold (putK N o.dst (.lit undef) st.fr st.σ (hold (fun st'=>aops P B N (hold ops .mk) rest st' (hold K .mk)) .mk)) .mk)):=rfl
theorem h_want_none {ops:Array Oper}{bo:Box ops}{fr:Frm}{y n:Prop}{b:Box y}{b':Box n}:awant (hold ops bo) fr none (hold y b) (hold n b')=(y):=rfl
def wantV (w:Bool)(v:AV)(y n:Prop):Prop:=match v with
  | .lit (.bool b)=>abr (b=w) (hold y .mk) (hold n .mk)
  | .lit _=>n
  |_=>False
theorem wantV_bool {w b:Bool}{y n:Prop}{k:Box y}{k':Box n}:wantV w (.lit (.bool b)) (hold y k) (hold n k')=abr (b=w) (hold y .mk) (hold n .mk):=rfl
theorem wantV_undef {w:Bool}{y n:Prop}{k:Box y}{k':Box n}:wantV w (.lit undef) (hold y k) (hold n k')=n:=rfl
theorem h_want_some {ops : Array Oper} {bo : Box ops}{fr : Frm} {j : Nat} {w : Bool} {y n : Prop} {b : Box y} {b' : Box n} : awant (hold ops bo) fr (some (j, w)) (hold y b) (hold n b') = (match (ops[j]?).bind (·.dst) with
      |none=>False
      |some d=>wantV w (lk fr d) (hold y .mk) (hold n .mk)):=by
  simp only[awant,hold]
  generalize(ops[j]?).bind (fun x=>x.dst)=od
  cases od with
  |none=>rfl
  |some d=>
    simp only[]
    generalize lk fr d=v
    cases v<;>try rfl
    next v=>cases v<;>first|(simp only[yb,wantV,Option.some.injEq];exact abr_ite.symm)|(simp[yb,wantV,hold];done)|rfl
theorem o_move {x:Operand}{d:Option Nat}{t:TypeId}{p:String}{es:Array Edge}{g:Option (Nat×Bool)}{st:ASt}{K:ASt→Prop}{k:Box K}:aop P B N ⟨d,.move x,t,p,es,g⟩ st (hold K k)=(aef P B (.move x) (ev st.fr) st.σ (hold (fun r σ'=>putK N d r st.fr σ' (hold K .mk)) .mk)):=rfl
theorem q_move {x:Operand}{fr:Frm}{σ:Store}{K:AV→Prop}{k:Box K}:aPop P B (.move x) fr σ (hold K k)=(aef P B (.move x) (ev fr) σ (hold (fun r σ'=>chk (σ'=σ) (hold (K r) .mk)) .mk)):=rfl
theorem o_assign {x:Operand}{d:Option Nat}{t:TypeId}{p:String}{es:Array Edge}{g:Option (Nat×Bool)}{st:ASt}{K:ASt→Prop}{k:Box K}:aop P B N ⟨d,.assign x,t,p,es,g⟩ st (hold K k)=(aef P B (.assign x) (ev st.fr) st.σ (hold (fun r σ'=>putK N d r st.fr σ' (hold K .mk)) .mk)):=rfl
theorem q_assign {x:Operand}{fr:Frm}{σ:Store}{K:AV→Prop}{k:Box K}:aPop P B (.assign x) fr σ (hold K k)=(aef P B (.assign x) (ev fr) σ (hold (fun r σ'=>chk (σ'=σ) (hold (K r) .mk)) .mk)):=rfl
theorem o_pick {c a b:Operand}{d:Option Nat}{t:TypeId}{p:String}{es:Array Edge}{g:Option (Nat×Bool)}{st:ASt}{K:ASt→Prop}{k:Box K}:aop P B N ⟨d,.pick c a b,t,p,es,g⟩ st (hold K k)=(aef P B (.pick c a b) (ev st.fr) st.σ (hold (fun r σ'=>putK N d r st.fr σ' (hold K .mk)) .mk)):=rfl
theorem q_pick {c a b:Operand}{fr:Frm}{σ:Store}{K:AV→Prop}{k:Box K}:aPop P B (.pick c a b) fr σ (hold K k)=(aef P B (.pick c a b) (ev fr) σ (hold (fun r σ'=>chk (σ'=σ) (hold (K r) .mk)) .mk)):=rfl
theorem o_alloc {e:TypeId}{d:Option Nat}{t:TypeId}{p:String}{es:Array Edge}{g:Option (Nat×Bool)}{st:ASt}{K:ASt→Prop}{k:Box K}:aop P B N ⟨d,.alloc e,t,p,es,g⟩ st (hold K k)=(aef P B (.alloc e) (ev st.fr) st.σ (hold (fun r σ'=>putK N d r st.fr σ' (hold K .mk)) .mk)):=rfl
theorem q_alloc {e:TypeId}{fr:Frm}{σ:Store}{K:AV→Prop}{k:Box K}:aPop P B (.alloc e) fr σ (hold K k)=(aef P B (.alloc e) (ev fr) σ (hold (fun r σ'=>chk (σ'=σ) (hold (K r) .mk)) .mk)):=rfl
theorem o_box {e:TypeId}{x:Operand}{d:Option Nat}{t:TypeId}{p:String}{es:Array Edge}{g:Option (Nat×Bool)}{st:ASt}{K:ASt→Prop}{k:Box K}:aop P B N ⟨d,.box e x,t,p,es,g⟩ st (hold K k)=(aef P B (.box e x) (ev st.fr) st.σ (hold (fun r σ'=>putK N d r st.fr σ' (hold K .mk)) .mk)):=rfl
theorem q_box {e:TypeId}{x:Operand}{fr:Frm}{σ:Store}{K:AV→Prop}{k:Box K}:aPop P B (.box e x) fr σ (hold K k)=(aef P B (.box e x) (ev fr) σ (hold (fun r σ'=>chk (σ'=σ) (hold (K r) .mk)) .mk)):=rfl
theorem o_build {ty:TypeId}{parts:Array (Nat×Operand)}{d:Option Nat}{t:TypeId}{p:String}{es:Array Edge}{g:Option (Nat×Bool)}{st:ASt}{K:ASt→Prop}{k:Box K}:aop P B N ⟨d,.build ty parts,t,p,es,g⟩ st (hold K k)=(aef P B (.build ty parts) (ev st.fr) st.σ (hold (fun r σ'=>putK N d r st.fr σ' (hold K .mk)) .mk)):=rfl
theorem q_build {ty:TypeId}{parts:Array (Nat×Operand)}{fr:Frm}{σ:Store}{K:AV→Prop}{k:Box K}:aPop P B (.build ty parts) fr σ (hold K k)=(aef P B (.build ty parts) (ev fr) σ (hold (fun r σ'=>chk (σ'=σ) (hold (K r) .mk)) .mk)):=rfl
theorem o_buildSlice {ty:TypeId}{len:Nat}{parts:Array (Nat×Operand)}{d:Option Nat}{t:TypeId}{p:String}{es:Array Edge}{g:Option (Nat×Bool)}{st:ASt}{K:ASt→Prop}{k:Box K}:aop P B N ⟨d,.buildSlice ty len parts,t,p,es,g⟩ st (hold K k)=(aef P B (.buildSlice ty len parts) (ev st.fr) st.σ (hold (fun r σ'=>putK N d r st.fr σ' (hold K .mk)) .mk)):=rfl
theorem q_buildSlice {ty:TypeId}{len:Nat}{parts:Array (Nat×Operand)}{fr:Frm}{σ:Store}{K:AV→Prop}{k:Box K}:aPop P B (.buildSlice ty len parts) fr σ (hold K k)=(aef P B (.buildSlice ty len parts) (ev fr) σ (hold (fun r σ'=>chk (σ'=σ) (hold (K r) .mk)) .mk)):=rfl
theorem o_load {ty:TypeId}{x:Operand}{d:Option Nat}{t:TypeId}{p:String}{es:Array Edge}{g:Option (Nat×Bool)}{st:ASt}{K:ASt→Prop}{k:Box K}:aop P B N ⟨d,.load ty x,t,p,es,g⟩ st (hold K k)=(aef P B (.load ty x) (ev st.fr) st.σ (hold (fun r σ'=>putK N d r st.fr σ' (hold K .mk)) .mk)):=rfl
theorem q_load {ty:TypeId}{x:Operand}{fr:Frm}{σ:Store}{K:AV→Prop}{k:Box K}:aPop P B (.load ty x) fr σ (hold K k)=(aef P B (.load ty x) (ev fr) σ (hold (fun r σ'=>chk (σ'=σ) (hold (K r) .mk)) .mk)):=rfl
theorem o_store {ty:TypeId}{x v:Operand}{d:Option Nat}{t:TypeId}{p:String}{es:Array Edge}{g:Option (Nat×Bool)}{st:ASt}{K:ASt→Prop}{k:Box K}:aop P B N ⟨d,.store ty x v,t,p,es,g⟩ st (hold K k)=(aef P B (.store ty x v) (ev st.fr) st.σ (hold (fun r σ'=>putK N d r st.fr σ' (hold K .mk)) .mk)):=rfl
theorem q_store {ty:TypeId}{x v:Operand}{fr:Frm}{σ:Store}{K:AV→Prop}{k:Box K}:aPop P B (.store ty x v) fr σ (hold K k)=(aef P B (.store ty x v) (ev fr) σ (hold (fun r σ'=>chk (σ'=σ) (hold (K r) .mk)) .mk)):=rfl
theorem o_nilCheck {x:Operand}{d:Option Nat}{t:TypeId}{p:String}{es:Array Edge}{g:Option (Nat×Bool)}{st:ASt}{K:ASt→Prop}{k:Box K}:aop P B N ⟨d,.nilCheck x,t,p,es,g⟩ st (hold K k)=(aef P B (.nilCheck x) (ev st.fr) st.σ (hold (fun r σ'=>putK N d r st.fr σ' (hold K .mk)) .mk)):=rfl
theorem q_nilCheck {x:Operand}{fr:Frm}{σ:Store}{K:AV→Prop}{k:Box K}:aPop P B (.nilCheck x) fr σ (hold K k)=(aef P B (.nilCheck x) (ev fr) σ (hold (fun r σ'=>chk (σ'=σ) (hold (K r) .mk)) .mk)):=rfl
theorem o_binOp {op:BinOp}{ty:TypeId}{x y:Operand}{ty2:TypeId}{d:Option Nat}{t:TypeId}{p:String}{es:Array Edge}{g:Option (Nat×Bool)}{st:ASt}{K:ASt→Prop}{k:Box K}:aop P B N ⟨d,.binOp op ty x y ty2,t,p,es,g⟩ st (hold K k)=(aef P B (.binOp op ty x y ty2) (ev st.fr) st.σ (hold (fun r σ'=>putK N d r st.fr σ' (hold K .mk)) .mk)):=rfl
theorem q_binOp {op:BinOp}{ty:TypeId}{x y:Operand}{ty2:TypeId}{fr:Frm}{σ:Store}{K:AV→Prop}{k:Box K}:aPop P B (.binOp op ty x y ty2) fr σ (hold K k)=(aef P B (.binOp op ty x y ty2) (ev fr) σ (hold (fun r σ'=>chk (σ'=σ) (hold (K r) .mk)) .mk)):=rfl
theorem o_unOp {op:UnOp}{ty:TypeId}{x:Operand}{d:Option Nat}{t:TypeId}{p:String}{es:Array Edge}{g:Option (Nat×Bool)}{st:ASt}{K:ASt→Prop}{k:Box K}:aop P B N ⟨d,.unOp op ty x,t,p,es,g⟩ st (hold K k)=(aef P B (.unOp op ty x) (ev st.fr) st.σ (hold (fun r σ'=>putK N d r st.fr σ' (hold K .mk)) .mk)):=rfl
theorem q_unOp {op:UnOp}{ty:TypeId}{x:Operand}{fr:Frm}{σ:Store}{K:AV→Prop}{k:Box K}:aPop P B (.unOp op ty x) fr σ (hold K k)=(aef P B (.unOp op ty x) (ev fr) σ (hold (fun r σ'=>chk (σ'=σ) (hold (K r) .mk)) .mk)):=rfl
theorem o_convert {ty ty2:TypeId}{x:Operand}{d:Option Nat}{t:TypeId}{p:String}{es:Array Edge}{g:Option (Nat×Bool)}{st:ASt}{K:ASt→Prop}{k:Box K}:aop P B N ⟨d,.convert ty ty2 x,t,p,es,g⟩ st (hold K k)=(aef P B (.convert ty ty2 x) (ev st.fr) st.σ (hold (fun r σ'=>putK N d r st.fr σ' (hold K .mk)) .mk)):=rfl
theorem q_convert {ty ty2:TypeId}{x:Operand}{fr:Frm}{σ:Store}{K:AV→Prop}{k:Box K}:aPop P B (.convert ty ty2 x) fr σ (hold K k)=(aef P B (.convert ty ty2 x) (ev fr) σ (hold (fun r σ'=>chk (σ'=σ) (hold (K r) .mk)) .mk)):=rfl
theorem o_makeFunc {fn:Fn}{first captured:Array Operand}{d:Option Nat}{t:TypeId}{p:String}{es:Array Edge}{g:Option (Nat×Bool)}{st:ASt}{K:ASt→Prop}{k:Box K}:aop P B N ⟨d,.makeFunc fn first captured,t,p,es,g⟩ st (hold K k)=(aef P B (.makeFunc fn first captured) (ev st.fr) st.σ (hold (fun r σ'=>putK N d r st.fr σ' (hold K .mk)) .mk)):=rfl
theorem q_makeFunc {fn:Fn}{first captured:Array Operand}{fr:Frm}{σ:Store}{K:AV→Prop}{k:Box K}:aPop P B (.makeFunc fn first captured) fr σ (hold K k)=(aef P B (.makeFunc fn first captured) (ev fr) σ (hold (fun r σ'=>chk (σ'=σ) (hold (K r) .mk)) .mk)):=rfl
theorem o_makeSlice {ty:TypeId}{len cap:Operand}{d:Option Nat}{t:TypeId}{p:String}{es:Array Edge}{g:Option (Nat×Bool)}{st:ASt}{K:ASt→Prop}{k:Box K}:aop P B N ⟨d,.makeSlice ty len cap,t,p,es,g⟩ st (hold K k)=(aef P B (.makeSlice ty len cap) (ev st.fr) st.σ (hold (fun r σ'=>putK N d r st.fr σ' (hold K .mk)) .mk)):=rfl
theorem q_makeSlice {ty:TypeId}{len cap:Operand}{fr:Frm}{σ:Store}{K:AV→Prop}{k:Box K}:aPop P B (.makeSlice ty len cap) fr σ (hold K k)=(aef P B (.makeSlice ty len cap) (ev fr) σ (hold (fun r σ'=>chk (σ'=σ) (hold (K r) .mk)) .mk)):=rfl
theorem o_slice {ty:TypeId}{x:Operand}{low high mx:Option Operand}{d:Option Nat}{t:TypeId}{p:String}{es:Array Edge}{g:Option (Nat×Bool)}{st:ASt}{K:ASt→Prop}{k:Box K}:aop P B N ⟨d,.slice ty x low high mx,t,p,es,g⟩ st (hold K k)=(aef P B (.slice ty x low high mx) (ev st.fr) st.σ (hold (fun r σ'=>putK N d r st.fr σ' (hold K .mk)) .mk)):=rfl
theorem q_slice {ty:TypeId}{x:Operand}{low high mx:Option Operand}{fr:Frm}{σ:Store}{K:AV→Prop}{k:Box K}:aPop P B (.slice ty x low high mx) fr σ (hold K k)=(aef P B (.slice ty x low high mx) (ev fr) σ (hold (fun r σ'=>chk (σ'=σ) (hold (K r) .mk)) .mk)):=rfl
theorem o_fieldAddr {ty:TypeId}{x:Operand}{f:Nat}{d:Option Nat}{t:TypeId}{p:String}{es:Array Edge}{g:Option (Nat×Bool)}{st:ASt}{K:ASt→Prop}{k:Box K}:aop P B N ⟨d,.fieldAddr ty x f,t,p,es,g⟩ st (hold K k)=(aef P B (.fieldAddr ty x f) (ev st.fr) st.σ (hold (fun r σ'=>putK N d r st.fr σ' (hold K .mk)) .mk)):=rfl
theorem q_fieldAddr {ty:TypeId}{x:Operand}{f:Nat}{fr:Frm}{σ:Store}{K:AV→Prop}{k:Box K}:aPop P B (.fieldAddr ty x f) fr σ (hold K k)=(aef P B (.fieldAddr ty x f) (ev fr) σ (hold (fun r σ'=>chk (σ'=σ) (hold (K r) .mk)) .mk)):=rfl
theorem o_indexAddr {ty:TypeId}{x i:Operand}{d:Option Nat}{t:TypeId}{p:String}{es:Array Edge}{g:Option (Nat×Bool)}{st:ASt}{K:ASt→Prop}{k:Box K}:aop P B N ⟨d,.indexAddr ty x i,t,p,es,g⟩ st (hold K k)=(aef P B (.indexAddr ty x i) (ev st.fr) st.σ (hold (fun r σ'=>putK N d r st.fr σ' (hold K .mk)) .mk)):=rfl
theorem q_indexAddr {ty:TypeId}{x i:Operand}{fr:Frm}{σ:Store}{K:AV→Prop}{k:Box K}:aPop P B (.indexAddr ty x i) fr σ (hold K k)=(aef P B (.indexAddr ty x i) (ev fr) σ (hold (fun r σ'=>chk (σ'=σ) (hold (K r) .mk)) .mk)):=rfl
theorem o_index {ty:TypeId}{x i:Operand}{d:Option Nat}{t:TypeId}{p:String}{es:Array Edge}{g:Option (Nat×Bool)}{st:ASt}{K:ASt→Prop}{k:Box K}:aop P B N ⟨d,.index ty x i,t,p,es,g⟩ st (hold K k)=(aef P B (.index ty x i) (ev st.fr) st.σ (hold (fun r σ'=>putK N d r st.fr σ' (hold K .mk)) .mk)):=rfl
theorem q_index {ty:TypeId}{x i:Operand}{fr:Frm}{σ:Store}{K:AV→Prop}{k:Box K}:aPop P B (.index ty x i) fr σ (hold K k)=(aef P B (.index ty x i) (ev fr) σ (hold (fun r σ'=>chk (σ'=σ) (hold (K r) .mk)) .mk)):=rfl
theorem o_extract {x:Operand}{i:Nat}{d:Option Nat}{t:TypeId}{p:String}{es:Array Edge}{g:Option (Nat×Bool)}{st:ASt}{K:ASt→Prop}{k:Box K}:aop P B N ⟨d,.extract x i,t,p,es,g⟩ st (hold K k)=(aef P B (.extract x i) (ev st.fr) st.σ (hold (fun r σ'=>putK N d r st.fr σ' (hold K .mk)) .mk)):=rfl
theorem q_extract {x:Operand}{i:Nat}{fr:Frm}{σ:Store}{K:AV→Prop}{k:Box K}:aPop P B (.extract x i) fr σ (hold K k)=(aef P B (.extract x i) (ev fr) σ (hold (fun r σ'=>chk (σ'=σ) (hold (K r) .mk)) .mk)):=rfl
theorem o_builtin {bi:Builtin}{args:Array Operand}{ts:Array TypeId}{d:Option Nat}{t:TypeId}{p:String}{es:Array Edge}{g:Option (Nat×Bool)}{st:ASt}{K:ASt→Prop}{k:Box K}:aop P B N ⟨d,.call {callee:=.builtin bi,args:=args,argTypes:=ts},t,p,es,g⟩ st (hold K k)=(aef P B (.call {callee:=.builtin bi,args:=args,argTypes:=ts}) (ev st.fr) st.σ (hold (fun r σ'=>putK N d r st.fr σ' (hold K .mk)) .mk)):=rfl
theorem q_builtin {bi:Builtin}{args:Array Operand}{ts:Array TypeId}{fr:Frm}{σ:Store}{K:AV→Prop}{k:Box K}:aPop P B (.call {callee:=.builtin bi,args:=args,argTypes:=ts}) fr σ (hold K k)=(aef P B (.call {callee:=.builtin bi,args:=args,argTypes:=ts}) (ev fr) σ (hold (fun r σ'=>chk (σ'=σ) (hold (K r) .mk)) .mk)):=rfl
theorem o_call {f:Operand}{args:Array Operand}{ts:Array TypeId}{d:Option Nat}{t:TypeId}{p:String}{es:Array Edge}{g:Option (Nat×Bool)}{st:ASt}{K:ASt→Prop}{k:Box K}:aop P B N ⟨d,.call {callee:=.value f,args:=args,argTypes:=ts},t,p,es,g⟩ st (hold K k)=(aCallV P B (ev st.fr f) (args.toList.map (ev st.fr)) st.σ (hold (fun r σ'=>putK N d r st.fr σ' (hold K .mk)) .mk)):=rfl
theorem q_call {f:Operand}{args:Array Operand}{ts:Array TypeId}{fr:Frm}{σ:Store}{K:AV→Prop}{k:Box K}:aPop P B (.call {callee:=.value f,args:=args,argTypes:=ts}) fr σ (hold K k)=(PCall P B (ev fr f) (args.toList.map (ev fr)) (hold K .mk)):=rfl
theorem h_callV {f : AV} {args : List AV} {σ : Store}{K : AV → Store → Prop} {k : Box K} : aCallV P B f args σ (hold K k) = (match f with
    | .fn (.func i) first cap=>ACall P B i (first++args++cap) σ (hold K .mk)
    |_=>False):=by
  cases f<;>try rfl
theorem h_pcall {f : AV} {args : List AV}{K : AV → Prop} {k : Box K} : PCall P B f args (hold K k) = (match f with
    | .fn (.func i) first cap=>PCallA P B i (first++args++cap) (hold K .mk)
    |_=>False):=by
  cases f<;>try rfl
theorem h_put_none {r:AV}{fr:Frm}{σ:Store}{K:ASt→Prop}{k:Box K}:putK N none r fr σ (hold K k)=(K ⟨fr,σ⟩):=rfl
theorem h_put_some {d:Nat}{r:AV}{fr:Frm}{σ:Store}{K:ASt→Prop}{k:Box K}(h:d<N):putK N (some d) r fr σ (hold K k)=K ⟨(d,r)::fr,σ⟩:=by simp[putK,hold,h]
theorem h_P_nil {ops:Array Oper}{fr:Frm}{σ:Store}{K:Frm→Prop}{k:Box K}:aP P B N ops [] fr σ (hold K k)=(K fr):=rfl
theorem h_P_cons {ops:Array Oper}{bo:Box ops}{o:Oper}{rest:List Oper}{fr:Frm}{σ:Store}{K:Frm→Prop}{k:Box K}:aP P B N (hold ops bo) (o::rest) fr σ (hold K k)=(awant (hold ops .mk) fr o.guard (hold (aPop P B o.op fr σ (hold (fun r=>dOkK N o.dst (hold (aP P B N (hold ops .mk) rest (putF o.dst r fr) σ (hold K .mk)) .mk)) .mk)) .mk) (hold (dOkK N o.dst (hold (aP P B N (hold ops .mk) rest (putF o.dst (.lit undef) fr) σ (hold K .mk)) .mk)) .mk)):=by rw[aP];rfl
theorem h_dok_none {K:Prop}{k:Box K}:dOkK N none (hold K k)=(K):=by simp[dOkK,dOk,hold]
theorem h_dok_some {d:Nat}{K:Prop}{k:Box K}(h:d<N):dOkK N (some d) (hold K k)=K:=by simp[dOkK,dOk,hold,h]
theorem h_arr_toList {α:Type}{l:List α}:(List.toArray l).toList=(l):=rfl
theorem e_move {x:Operand}{ρ:Operand→AV}{σ:Store}{K:AV→Store→Prop}{k:Box K}:aef P B (.move x) ρ σ (hold K k)=(K (ρ x) σ):=rfl
theorem e_assign {x:Operand}{ρ:Operand→AV}{σ:Store}{K:AV→Store→Prop}{k:Box K}:aef P B (.assign x) ρ σ (hold K k)=(K (ρ x) σ):=rfl
theorem e_pick {c a b : Operand}{ρ : Operand → AV} {σ : Store}{K : AV → Store → Prop} {k : Box K} : aef P B (.pick c a b) ρ σ (hold K k) = (match ρ c with
    | .lit (.bool v)=>abr (v=true) (hold (K (ρ a) σ) .mk) (hold (K (ρ b) σ) .mk)
    |_=>False):=by
  simp only[aef,hold]
  generalize ρ c=v
  cases v<;>try rfl
  next v=>cases v<;>first|(rename_i v;cases v<;>simp[abr];done)|rfl
theorem e_alloc {t : TypeId}{ρ : Operand → AV} {σ : Store}{K : AV → Store → Prop} {k : Box K} : aef P B (.alloc t) ρ σ (hold K k) = (match tiOf P t with
    |some i=>chk (i.zero≠[]) (hold (K (.ptr σ.length 0) (σ++[allocB t i.zero])) .mk)
    |none=>False):=rfl
theorem aB_int {t:TypeId}{k:IntKind}{n:Int}{r:List Value}:allocB t (.int k n::r)=.cells ((.int k n::r).map .lit):=rfl
theorem aB_bool {t:TypeId}{b:Bool}{r:List Value}:allocB t (.bool b::r)=.cells ((.bool b::r).map .lit):=rfl
theorem aB_string {t:TypeId}{s:ByteArray}{r:List Value}:allocB t (.string s::r)=.cells ((.string s::r).map .lit):=rfl
theorem aB_slice {t:TypeId}{a:Option Addr}{n c:Nat}{r:List Value}:allocB t (.slice a n c::r)=.cells ((.slice a n c::r).map .lit):=rfl
theorem aB_fn {t:TypeId}{r:List Value}:allocB t (.nilFunc::r)=.cells ((.nilFunc::r).map .lit):=rfl
theorem aB_ptr {t:TypeId}{p:Option Addr}:allocB t [.pointer p]=.cells [.lit (.pointer p)]:=by cases p<;>rfl
theorem aB_bld {t:TypeId}:allocB t [.pointer none,.slice none 0 0]=.tcells (some t) [.junk,.lit (.slice none 0 0)]:=rfl
theorem e_box {t:TypeId}{x:Operand}{ρ:Operand→AV}{σ:Store}{K:AV→Store→Prop}{k:Box K}:aef P B (.box t x) ρ σ (hold K k)=(AV.cellsK σ (ρ x) (hold (fun cs=>K (.ptr σ.length 0) (σ++[.cells cs])) .mk)):=rfl
theorem e_build {t:TypeId}{parts:Array (Nat×Operand)}{ρ:Operand→AV}{σ:Store}{K:AV→Store→Prop}{k:Box K}:aef P B (.build t parts) ρ σ (hold K k)=(aBuild P t σ (parts.toList.map fun p=>(p.1,ρ p.2)) (hold K .mk)):=rfl
theorem e_buildSlice {t:TypeId}{len:Nat}{parts:Array (Nat×Operand)}{ρ:Operand→AV}{σ:Store}{K:AV→Store→Prop}{k:Box K}:aef P B (.buildSlice t len parts) ρ σ (hold K k)=(aBuildSlice P B t σ len (parts.toList.map fun p=>(p.1,ρ p.2)) (hold K .mk)):=rfl
theorem e_load {t:TypeId}{x:Operand}{ρ:Operand→AV}{σ:Store}{K:AV→Store→Prop}{k:Box K}:aef P B (.load t x) ρ σ (hold K k)=(aLoad P t σ (ρ x) (hold (fun r=>K r σ) .mk)):=rfl
theorem e_store {t:TypeId}{a x:Operand}{ρ:Operand→AV}{σ:Store}{K:AV→Store→Prop}{k:Box K}:aef P B (.store t a x) ρ σ (hold K k)=(aStore P t σ (ρ a) (ρ x) (hold (fun σ'=>K (.lit undef) σ') .mk)):=rfl
theorem e_nilCheck {x:Operand}{ρ:Operand→AV}{σ:Store}{K:AV→Store→Prop}{k:Box K}:aef P B (.nilCheck x) ρ σ (hold K k)=(chk (liveP σ (ρ x)) (hold (K (ρ x) σ) .mk)):=rfl
theorem e_binOp {op:BinOp}{t yt:TypeId}{x y:Operand}{ρ:Operand→AV}{σ:Store}{K:AV→Store→Prop}{k:Box K}:aef P B (.binOp op t x y yt) ρ σ (hold K k)=(aBin P op t (ρ x) (ρ y) (hold (fun r=>K r σ) .mk)):=rfl
theorem e_unOp {op:UnOp}{t:TypeId}{x:Operand}{ρ:Operand→AV}{σ:Store}{K:AV→Store→Prop}{k:Box K}:aef P B (.unOp op t x) ρ σ (hold K k)=(aUn op (ρ x) (hold (fun r=>K r σ) .mk)):=rfl
theorem e_convert {s d:TypeId}{x:Operand}{ρ:Operand→AV}{σ:Store}{K:AV→Store→Prop}{k:Box K}:aef P B (.convert s d x) ρ σ (hold K k)=(aConv P s d σ (ρ x) (hold (fun r=>K r σ) .mk)):=rfl
theorem e_makeFunc {fn:Fn}{first cap:Array Operand}{ρ:Operand→AV}{σ:Store}{K:AV→Store→Prop}{k:Box K}:aef P B (.makeFunc fn first cap) ρ σ (hold K k)=(K (.fn fn (first.toList.map ρ) (cap.toList.map ρ)) σ):=rfl
theorem e_makeSlice {t:TypeId}{l c:Operand}{ρ:Operand→AV}{σ:Store}{K:AV→Store→Prop}{k:Box K}:aef P B (.makeSlice t l c) ρ σ (hold K k)=(aMakeSlice P B t σ (ρ l) (ρ c) (hold K .mk)):=rfl
theorem e_slice {t:TypeId}{x:Operand}{lo hi mx:Option Operand}{ρ:Operand→AV}{σ:Store}{K:AV→Store→Prop}{k:Box K}:aef P B (.slice t x lo hi mx) ρ σ (hold K k)=(aSlice P t σ (ρ x) (lo.map ρ) (hi.map ρ) (mx.map ρ) (hold K .mk)):=rfl
theorem e_fieldAddr {t:TypeId}{x:Operand}{f:Nat}{ρ:Operand→AV}{σ:Store}{K:AV→Store→Prop}{k:Box K}:aef P B (.fieldAddr t x f) ρ σ (hold K k)=(aFieldAddr P t σ (ρ x) f (hold (fun r=>K r σ) .mk)):=rfl
theorem e_indexAddr {t:TypeId}{x i:Operand}{ρ:Operand→AV}{σ:Store}{K:AV→Store→Prop}{k:Box K}:aef P B (.indexAddr t x i) ρ σ (hold K k)=(aIndexAddr P t σ (ρ x) (ρ i) (hold (fun r=>K r σ) .mk)):=rfl
theorem e_index {t:TypeId}{x i:Operand}{ρ:Operand→AV}{σ:Store}{K:AV→Store→Prop}{k:Box K}:aef P B (.index t x i) ρ σ (hold K k)=(aIndex P t (ρ x) (ρ i) (hold (fun r=>K r σ) .mk)):=rfl
theorem e_extract {x : Operand} {i : Nat}{ρ : Operand → AV} {σ : Store}{K : AV → Store → Prop} {k : Box K} : aef P B (.extract x i) ρ σ (hold K k) = (match ρ x with
    | .tup vs=>chk (i<vs.length) (hold (K (vs.getD i .junk) σ) .mk)
    |_=>False):=rfl
theorem e_len {x y:Operand}{t t2:TypeId}{ρ:Operand→AV}{σ:Store}{K:AV→Store→Prop}{k:Box K}:aef P B (.call {callee:=.builtin .len,args:=List.toArray [x],argTypes:=List.toArray [t]}) ρ σ (hold K k)=(aLen P t σ (ρ x) (hold (fun r=>K r σ) .mk)):=rfl
theorem e_append {x y:Operand}{t t2:TypeId}{ρ:Operand→AV}{σ:Store}{K:AV→Store→Prop}{k:Box K}:aef P B (.call {callee:=.builtin .append,args:=List.toArray [x,y],argTypes:=List.toArray [t,t2]}) ρ σ (hold K k)=(aAppend P B t t2 σ (ρ x) (ρ y) (hold K .mk)):=rfl
theorem e_min {x y : Operand} {t t2 : TypeId}{ρ : Operand → AV} {σ : Store}{K : AV → Store → Prop} {k : Box K} : aef P B (.call { callee := .builtin .min, args := List.toArray [x, y], argTypes := List.toArray [t, t2] }) ρ σ (hold K k) = (match ρ x, ρ y with
    | .lit (.int k a),.lit (.int _ b)=>K (.lit (.int k (if b<a then b else a))) σ
    |_,_=>False):=by
  simp only[aef,hold,List.map_cons,List.map_nil]
  unfold aBuiltin
  generalize ρ x=v;generalize ρ y=u
  cases v<;>try rfl
  next v => cases v <;> try rfl
            cases u<;>try rfl
            next u=>cases u<;>rfl
theorem e_max {x y : Operand} {t t2 : TypeId}{ρ : Operand → AV} {σ : Store}{K : AV → Store → Prop} {k : Box K} : aef P B (.call { callee := .builtin .max, args := List.toArray [x, y], argTypes := List.toArray [t, t2] }) ρ σ (hold K k) = (match ρ x, ρ y with
    | .lit (.int k a),.lit (.int _ b)=>K (.lit (.int k (if b>a then b else a))) σ
    |_,_=>False):=by
  simp only[aef,hold,List.map_cons,List.map_nil]
  unfold aBuiltin
  generalize ρ x=v;generalize ρ y=u
  cases v<;>try rfl
  next v => cases v <;> try rfl
            cases u<;>try rfl
            next u=>cases u<;>rfl
theorem f_cellsK {σ:Store}{x:AV}{K:List AV→Prop}{k:Box K}:AV.cellsK σ x (hold K k)=(match x with
  | .agg cs=>K cs
  | .lit v=>chk (oneV v) (hold (K [.lit v]) .mk)
  | .arr es=>K [.arr es]
  | .rptr e o=>K [.rptr e o]
  | .fn f a b=>K [.fn f a b]
  | .own l n=>chk (ok1 σ (.own l n)) (hold (K [.own l n]) .mk)
  | .ptr l n=>chk (ok1 σ (.ptr l n)) (hold (K [.ptr l n]) .mk)
  | .eptr l n i o=>chk (ok1 σ (.eptr l n i o)) (hold (K [.eptr l n i o]) .mk)
  | .junk=>False
  | .pre _ _ _=>False
  | .tup _=>False):=by cases x<;>simp[AV.cellsK,ok1,hold,chk]
theorem f_rdE {e:List AV}{off n:Nat}{K:List AV→Prop}{k:Box K}:rdE e off n (hold K k)=(if off=0∧n=e.length then K e else chk (off+n≤e.length) (hold (K ((e.drop off).take n)) .mk)):=rfl
theorem f_rdN {σ:Store}{p:AV}{n:Nat}{K:List AV→Prop}{k:Box K}:rdN σ p n (hold K k)=(match p with
  | .rptr e off=>rdE e off n (hold K .mk)
  | .ptr l off=>match σ[l]? with
    |some (.cells cs)=>rdE cs off n (hold K .mk)
    |_=>False
  | .eptr l k i off=>match σ[l]? with
    |some (.elems _ es)=>chk (es.length=k) (hold (chk (i<es.length) (hold (rdE (es.getD i []) off n (hold K .mk)) .mk)) .mk)
    |_=>False
  |_=>False):=rfl
theorem f_rd1 {σ:Store}{p:AV}{K:AV→Prop}{k:Box K}:rd1 σ p (hold K k)=(match p with
  | .rptr e off=>chk (off<e.length) (hold (K (e.getD off .junk)) .mk)
  | .ptr l off=>match σ[l]? with
    |some (.cells cs)=>chk (off<cs.length) (hold (K (cs.getD off .junk)) .mk)
    |_=>False
  | .eptr l k i off=>match σ[l]? with
    |some (.elems _ es)=>chk (es.length=k) (hold (chk (i<es.length) (hold (chk (off<(es.getD i []).length) (hold (K ((es.getD i []).getD off .junk)) .mk)) .mk)) .mk)
    |_=>False
  |_=>False):=rfl
theorem f_aLoad {σ:Store}{t:TypeId}{p:AV}{K:AV→Prop}{k:Box K}:aLoad P t σ p (hold K k)=(match tiOf P t with
  |some i=>if i.sh.isAgg then rdN σ p i.size (hold (fun cs=>K (.agg cs)) .mk)else rd1 σ p (hold K .mk)
  |none=>False):=rfl
theorem f_wrE {e cs:List AV}{off:Nat}{K:List AV→Prop}{k:Box K}:wrE e off cs (hold K k)=(if off=0∧cs.length=e.length then K cs
  else chk (off+cs.length≤e.length) (hold (K (e.take off++cs++e.drop (off+cs.length))) .mk)):=rfl
theorem f_wrN {σ:Store}{p:AV}{cs:List AV}{K:Store→Prop}{k:Box K}:wrN σ p cs (hold K k)=(match p with
  | .ptr l off=>match σ[l]? with
    |some (.cells old)=>wrE old off cs (hold (fun new=>K (σ.set l (.cells new))) .mk)
    |_=>False
  | .eptr l k i off=>match σ[l]? with
    |some (.elems sz es)=>chk (es.length=k) (hold (chk (i<es.length) (hold (wrE (es.getD i []) off cs (hold (fun new=>K (σ.set l (.elems sz (es.set i (new.map (nzs σ)))))) .mk)) .mk)) .mk)
    |_=>False
  |_=>False):=rfl
theorem f_aStore {σ:Store}{t:TypeId}{p v:AV}{K:Store→Prop}{k:Box K}:aStore P t σ p v (hold K k)=(match tiOf P t with
  |some i=>AV.cellsK σ v (hold (fun cs=>chk (cs.length=i.size) (hold (chk (allOk1 σ cs) (hold (wrN σ p cs (hold K .mk)) .mk)) .mk)) .mk)
  |none=>False):=rfl
theorem f_aFieldAddr {σ:Store}{t:TypeId}{p:AV}{f:Nat}{K:AV→Prop}{k:Box K}:aFieldAddr P t σ p f (hold K k)=(match tiOf P t with
  |some ⟨.struct offs,_,_⟩=>match offs[f]? with
    |some (o,s+1)=>chk (liveP σ p) (hold (K (p.adv o)) .mk)
    |_=>False
  |_=>False):=rfl
theorem f_aIndexAddr {σ:Store}{t:TypeId}{x i:AV}{K:AV→Prop}{k:Box K}:aIndexAddr P t σ x i (hold K k)=(match i,tiOf P t with
  | .lit (.int _ n),some ⟨.slice sz _ _,_,_⟩=>match x with
    | .arr es=>chk (0≤n) (hold (chk (n.toNat<es.length) (hold (chk ((es.getD n.toNat []).length=sz) (hold (K (.rptr (es.getD n.toNat []) 0)) .mk)) .mk)) .mk)
    | .own l k=>match σ[l]? with
      |some (.elems sz' es)=>chk (es.length=k) (hold (chk (sz'=sz) (hold (chk (0≤n) (hold (chk (n.toNat<k) (hold (K (.eptr l k n.toNat 0)) .mk)) .mk)) .mk)) .mk)
      |_=>False
    |_=>False
  | .lit (.int _ n),some ⟨.array len (sz+1),_,_⟩=>chk (0≤n) (hold (chk (n.toNat<len) (hold (chk (liveP σ x) (hold (K (x.adv (n.toNat*(sz+1)))) .mk)) .mk)) .mk)
  |_,_=>False):=rfl
theorem f_aIndex {t:TypeId}{x i:AV}{K:AV→Prop}{k:Box K}:aIndex P t x i (hold K k)=(match x,i with
  | .lit (.string s),.lit (.int _ n)=>chk (P.underlying t=some .string) (hold (chk (0≤n) (hold (chk (n.toNat<s.size) (hold (K (.lit (.int .u8 (byteAt s n.toNat)))) .mk)) .mk)) .mk)
  | .agg cs,.lit (.int _ n)=>match P.underlying t with
    |some (.array len e)=>match tiOf P e with
      |some j=>chk (j.sh.isAgg=false) (hold (chk (j.size=1) (hold (chk (len=cs.length) (hold (chk (0≤n) (hold (chk (n.toNat<len) (hold (K (cs.getD n.toNat .junk)) .mk)) .mk)) .mk)) .mk)) .mk)
      |none=>False
    |_=>False
  |_,_=>False):=rfl
theorem f_aLen {σ:Store}{t:TypeId}{x:AV}{K:AV→Prop}{k:Box K}:aLen P t σ x (hold K k)=(match P.underlying t with
  |some (.slice _)=>match x with
    | .arr es=>K (.lit (.int .i64 es.length))
    | .lit (.slice none 0 0)=>K (.lit (.int .i64 0))
    | .own l k=>K (.lit (.int .i64 k))
    |_=>False
  |some .string=>match x with
    | .lit (.string s)=>K (.lit (.int .i64 s.size))
    |_=>False
  |some (.array n _)=>K (.lit (.int .i64 n))
  |_=>False):=rfl
theorem f_elemsK {σ:Store}{x:AV}{K:List (List AV)→Prop}{k:Box K}:elemsK σ x (hold K k)=(match x with
  | .arr es=>K es
  | .lit (.slice none 0 0)=>K []
  | .lit (.slice (some _) 0 _)=>K []
  | .own l k=>match σ[l]? with
    |some (.elems _ es)=>chk (es.length=k) (hold (K es) .mk)
    |_=>False
  |_=>False):=rfl
theorem f_aAppend {σ:Store}{t t2:TypeId}{s x:AV}{K:AV→Store→Prop}{k:Box K}:aAppend P B t t2 σ s x (hold K k)=(match tiOf P t,P.underlying t2 with
  |some ⟨.slice sz bytes zs,_,_⟩,some (.slice _)=>
    chk (zs.length=sz) (hold (chk (sz≠0) (hold (chk (bytes≠0) (hold (elemsK σ x (hold (fun new=>chk (lens sz new) (hold (chk (ok1ss σ new) (hold (
      match s with
      | .lit (.slice none 0 0) => chk (new.length ≤ bd B) (hold (chk ((2 * new.length + 1024) * bytes ≤ 281474976710656) (hold (
          K (.own σ.length new.length) (σ++[.elems sz new])) .mk)) .mk)
      | .own l n=>match σ[l]? with
        | some (.elems sz' es) => chk (es.length = n) (hold (chk (sz' = sz) (hold (chk (n + new.length ≤ bd B) (hold (chk ((2 * (n + new.length) + 1024) * bytes ≤ 281474976710656) (hold (
            K (.own l (n+new.length)) (σ.set l (.elems sz (es++new)))) .mk)) .mk)) .mk)) .mk)
        |_=>False
      |_=>False) .mk)) .mk)) .mk)) .mk)) .mk)) .mk)
  |_,_=>False):=rfl
theorem f_aBin {op:BinOp}{t:TypeId}{x y:AV}{K:AV→Prop}{k:Box K}:aBin P op t x y (hold K k)=(match x,y with
  | .lit (.int k a),.lit (.int k' b)=>chk (k=k') (hold (match op with
    | .add=>K (.lit (.int k (k.wrap (a+b))))
    | .sub=>K (.lit (.int k (k.wrap (a-b))))
    | .mul=>K (.lit (.int k (k.wrap (a*b))))
    | .quo=>chk (b≠0) (hold (K (.lit (.int k (k.wrap (a.tdiv b))))) .mk)
    | .rem=>chk (b≠0) (hold (K (.lit (.int k (a.tmod b)))) .mk)
    | .eql=>K (.lit (.bool (a==b)))
    | .neq=>K (.lit (.bool (a !=b)))
    | .lss=>K (.lit (.bool (a<b)))
    | .leq=>K (.lit (.bool (a≤b)))
    | .gtr=>K (.lit (.bool (a>b)))
    | .geq=>K (.lit (.bool (a≥b)))
    | .xor=>K (.lit (.int k (xorI k a b)))
    |_=>False) .mk)
  | .lit (.string a),.lit (.string b)=>match op with
    | .add=>chk ((a.size+b.size:Nat)≤9223372036854775807) (hold (K (.lit (.string (a++b)))) .mk)
    | .eql=>K (.lit (.bool (a.toList==b.toList)))
    | .neq=>K (.lit (.bool (!(a.toList==b.toList))))
    |_=>False
  | .lit (.bool a),.lit (.bool b)=>chk (P.underlying t=some .bool) (hold (match op with
    | .eql=>K (.lit (.bool (a==b)))
    | .neq=>K (.lit (.bool (!(a==b))))
    |_=>False) .mk)
  | .agg xs,.agg ys=>match pairOf xs,pairOf ys with
    |some p,some q=>chk (pair2B P t=true) (hold (match op with
      | .eql=>K (.lit (.bool (dec (eq2 p q))))
      | .neq=>K (.lit (.bool (!dec (eq2 p q))))
      |_=>False) .mk)
    |_,_=>match tripOf xs,tripOf ys with
      |some p,some q=>chk (trip3B P t=true) (hold (match op with
        | .eql=>K (.lit (.bool (dec (eq3 p q))))
        | .neq=>K (.lit (.bool (!dec (eq3 p q))))
        |_=>False) .mk)
      |_,_=>match quadOf xs,quadOf ys with
        |some p,some q=>chk (quad4B P t=true) (hold (match op with
          | .eql=>K (.lit (.bool (dec (eq4 p q))))
          | .neq=>K (.lit (.bool (!dec (eq4 p q))))
          |_=>False) .mk)
        |_,_=>False
  | .arr es,.lit (.slice none 0 0)=>chk (isSl P t=true) (hold (chk (es≠[]) (hold (match op with
    | .eql=>K (.lit (.bool false))
    | .neq=>K (.lit (.bool true))
    |_=>False) .mk)) .mk)
  | .lit (.slice a n c),.lit (.slice none 0 0)=>chk (isSl P t=true) (hold (match op with
    | .eql=>K (.lit (.bool a.isNone))
    | .neq=>K (.lit (.bool (!a.isNone)))
    |_=>False) .mk)
  |_,_=>False):=rfl
theorem f_aUn {op:UnOp}{x:AV}{K:AV→Prop}{k:Box K}:aUn op x (hold K k)=(match op,x with
  | .not,.lit (.bool b)=>K (.lit (.bool (!b)))
  | .neg,.lit (.int k n)=>K (.lit (.int k (k.wrap (0-n))))
  |_,_=>False):=rfl
theorem f_aConv {s d:TypeId}{σ:Store}{x:AV}{K:AV→Prop}{k:Box K}:aConv P s d σ x (hold K k)=(match P.underlying s,P.underlying d,x with
  |some (.int _),some (.int k),.lit (.int _ n)=>K (.lit (.int k (k.wrap n)))
  |some (.slice e),some .string,.arr es=>chk (byteRow P (some (.slice e))=true) (hold (match u8s es with
    |some ns=>K (.lit (.string (strB ns)))
    |none=>False) .mk)
  |some (.slice e),some .string,.own l n=>chk (byteRow P (some (.slice e))=true) (hold (match σ[l]? with
    |some (.elems _ es)=>chk (es.length=n) (hold (match u8s es with
      |some ns=>K (.lit (.string (strB ns)))
      |none=>False) .mk)
    |_=>False) .mk)
  |_,_,_=>False):=rfl
theorem f_frz_nil {σ:Store}{K:List AV→Store→Prop}{k:Box K}:frz σ [] (hold K k)=(K [] σ):=id rfl
theorem f_frz_cons {σ:Store}{x:AV}{r:List AV}{K:List AV→Store→Prop}{k:Box K}:frz σ (x::r) (hold K k)=(match x with
  | .own l n=>(match σ[l]? with
    |some (.elems _ es)=>chk (es.length=n) (hold (chk (puress es) (hold (frz (σ.set l .dead) r (hold (fun r' σ'=>K (.arr es::r') σ') .mk)) .mk)) .mk)
    |_=>False)
  | .lit v=>frz σ r (hold (fun r' σ'=>K (.lit v::r') σ') .mk)
  | .arr v=>frz σ r (hold (fun r' σ'=>K (.arr v::r') σ') .mk)
  |y=>frz σ r (hold (fun r' σ'=>K (y::r') σ') .mk)):=by
  simp only[hold]
  cases x with
  |own l n=>simp only[frz];generalize σ[l]? =ob;rcases ob with _|(_|⟨(_|_),cs⟩|⟨(_|_),sz,es⟩)<;>rfl
  |_=>rfl
theorem f_frzs_nil {σ:Store}{K:List (List AV)→Store→Prop}{k:Box K}:frzs σ [] (hold K k)=(K [] σ):=id rfl
theorem f_frzs_cons {σ:Store}{x:List AV}{r:List (List AV)}{K:List (List AV)→Store→Prop}{k:Box K}:frzs σ (x::r) (hold K k)=(frz σ x (hold (fun e' σ'=>frzs σ' r (hold (fun r' σ''=>K (e'::r') σ'') .mk)) .mk)):=id rfl
theorem f_frz1 {σ:Store}{x:AV}{K:AV→Store→Prop}{k:Box K}:frz1 σ x (hold K k)=(match x with
  | .agg cs=>frz σ cs (hold (fun cs' σ'=>K (.agg cs') σ') .mk)
  | .own l n=>(match σ[l]? with
    |some (.elems _ es)=>chk (es.length=n) (hold (chk (puress es) (hold (K (.arr es) (σ.set l .dead)) .mk)) .mk)
    |_=>False)
  | .lit v=>K (.lit v) σ
  | .arr v=>K (.arr v) σ
  |y=>K y σ):=by cases x<;>rfl
theorem f_frzT_nil {σ:Store}{K:List AV→Store→Prop}{k:Box K}:frzT σ [] (hold K k)=(K [] σ):=rfl
theorem f_frzT_cons {σ:Store}{x:AV}{r:List AV}{K:List AV→Store→Prop}{k:Box K}:frzT σ (x::r) (hold K k)=(frz1 σ x (hold (fun x' σ'=>frzT σ' r (hold (fun r' σ''=>K (x'::r') σ'') .mk)) .mk)):=rfl
theorem f_frzR {σ:Store}{x:AV}{K:AV→Store→Prop}{k:Box K}:frzR σ x (hold K k)=(match x with
  | .tup xs=>frzT σ xs (hold (fun xs' σ'=>K (.tup xs') σ') .mk)
  | .lit v=>K (.lit v) σ
  | .arr v=>K (.arr v) σ
  |y=>frz1 σ y (hold K .mk)):=by cases x<;>rfl
theorem f_ares_nil {σ:Store}{fr:Frm}{K:List AV→Prop}{k:Box K}:ares P σ fr [] (hold K k)=(K []):=rfl
theorem f_ares_tmp {σ:Store}{fr:Frm}{t:Nat}{r:List ResultVar}{K:List AV→Prop}{k:Box K}:ares P σ fr (.tmp t::r) (hold K k)=(ares P σ fr r (hold (fun xs=>K (lk fr t::xs)) .mk)):=rfl
theorem f_ares_cell {σ:Store}{fr:Frm}{a:Nat}{t:TypeId}{r:List ResultVar}{K:List AV→Prop}{k:Box K}:ares P σ fr (.cell a t::r) (hold K k)=(aLoad P t σ (lk fr a) (hold (fun x=>ares P σ fr r (hold (fun xs=>K (x::xs)) .mk)) .mk)):=rfl
theorem f_aFill_nil {place:Nat→Option (Nat×Nat)}{σ:Store}{cs:List AV}{K:List AV→Prop}{k:Box K}:aFill place σ cs [] (hold K k)=(K cs):=rfl
theorem f_aFill_cons {place : Nat → Option (Nat × Nat)}{σ : Store}{cs : List AV} {i : Nat} {x : AV} {rest : List (Nat × AV)}{K : List AV → Prop} {k : Box K} : aFill place σ cs ((i, x) :: rest) (hold K k) = (match place i with
    |some (off,size)=>AV.cellsK σ x (hold (fun new=>chk (new.length=size) (hold (wrE cs off new (hold (fun cs'=>aFill place σ cs' rest (hold K .mk)) .mk)) .mk)) .mk)
    |none=>False):=rfl
theorem f_aBuild {σ:Store}{t:TypeId}{ps:List (Nat×AV)}{K:AV→Store→Prop}{k:Box K}:aBuild P t σ ps (hold K k)=(match tiOf P t with
  |some ⟨.struct offs,_,z⟩=>chk ((∀p,p∈offs→p.2≠0)) (hold (chk (z≠[]) (hold (aFill (fun i=>offs[i]?) σ (z.map .lit) ps (hold (fun cs=>bfrz σ cs (hold (fun cs' σ'=>K (.agg cs') σ') .mk)) .mk)) .mk)) .mk)
  |_=>False):=rfl
theorem f_bfrz {σ:Store}{cs:List AV}{K:List AV→Store→Prop}{k:Box K}:bfrz σ cs (hold K k)=(if σ.any isM=true then K cs σ else frz σ cs (hold K .mk)):=rfl
theorem f_bfrzs {σ:Store}{es:List (List AV)}{K:List (List AV)→Store→Prop}{k:Box K}:bfrzs σ es (hold K k)=(if σ.any isK=true∧σ.any isP=true then K es σ else frzs σ es (hold K .mk)):=rfl
theorem isK_elems {n:Nat}{es:List (List AV)}:isK (.elems n es)=decide (n=0):=by cases n<;>rfl
theorem isK_cells {cs:List AV}:isK (.cells cs)=false:=rfl
theorem isK_dead :isK .dead=false:=rfl
theorem isK_pack {xs:List AV}{vs:List Value}:isK (.pack xs vs)=false:=rfl
theorem isP_elems {n:Nat}{es:List (List AV)}:isP (.elems n es)=false:=rfl
theorem isP_cells {cs:List AV}:isP (.cells cs)=false:=rfl
theorem isP_dead :isP .dead=false:=rfl
theorem isP_pack {xs:List AV}{vs:List Value}:isP (.pack xs vs)=true:=rfl
theorem isM_elems {n:Nat}{es:List (List AV)}:isM (.elems n es)=decide (n=0):=by cases n<;>rfl
theorem isM_cells {cs:List AV}:isM (.cells cs)=false:=rfl
theorem isM_dead :isM .dead=false:=rfl
theorem isM_pack {xs:List AV}{vs:List Value}:isM (.pack xs vs)=true:=rfl
theorem isPk_elems {n:Nat}{es:List (List AV)}:isPk (.elems n es)=false:=rfl
theorem isPk_cells {cs:List AV}:isPk (.cells cs)=false:=rfl
theorem isPk_dead :isPk .dead=false:=rfl
theorem isPk_pack {xs:List AV}{vs:List Value}:isPk (.pack xs vs)=true:=rfl
theorem f_aElems_nil {σ:Store}{sz j:Nat}{K:List (List AV)→Prop}{k:Box K}:aElems σ sz j [] (hold K k)=(K []):=rfl
theorem f_aElems_cons {σ:Store}{sz j i:Nat}{x:AV}{rest:List (Nat×AV)}{K:List (List AV)→Prop}{k:Box K}:aElems σ sz j ((i,x)::rest) (hold K k)=(chk (i=j) (hold (AV.cellsK σ x (hold (fun e=>chk (e.length=sz) (hold (aElems σ sz (j+1) rest (hold (fun es=>K (e.map (nzs σ)::es)) .mk)) .mk)) .mk)) .mk)):=rfl
theorem f_aBuildSlice {σ:Store}{t:TypeId}{len:Nat}{ps:List (Nat×AV)}{K:AV→Store→Prop}{k:Box K}:aBuildSlice P B t σ len ps (hold K k)=(match tiOf P t with
  |some ⟨.slice sz _ z,_,_⟩=>chk (ps.length=len) (hold (chk (len*sz≤16777216) (hold (chk (len≤bd B) (hold (chk (z.length=sz) (hold (chk (sz≠0) (hold (aElems σ sz 0 ps (hold (fun es=>bfrzs σ es (hold (fun es' σ'=>K (.own σ'.length len) (σ'++[.elems sz es'])) .mk)) .mk)) .mk)) .mk)) .mk)) .mk)) .mk)
  |_=>False):=rfl
theorem f_aMakeSlice {σ:Store}{t:TypeId}{l c:AV}{K:AV→Store→Prop}{k:Box K}:aMakeSlice P B t σ l c (hold K k)=(match tiOf P t,l,c with
  |some ⟨.slice sz bytes z,_,_⟩,.lit (.int _ n),.lit (.int _ n')=>chk (n=n') (hold (chk (0≤n) (hold (chk (n≤9223372036854775807) (hold (chk (bytes*n≤281474976710656) (hold (chk (n.toNat≤bd B) (hold (chk (z.length=sz) (hold (chk (sz≠0) (hold (K (.own σ.length n.toNat) (σ++[.elems sz (List.replicate n.toNat ((z.map .lit).map (nzs σ)))])) .mk)) .mk)) .mk)) .mk)) .mk)) .mk)) .mk)
  |_,_,_=>False):=rfl
theorem f_optInt {x:Option AV}{d:Nat}{K:Nat→Prop}{k:Box K}:optInt x d (hold K k)=(match x with
  |none=>K d
  |some (.lit (.int _ n))=>chk (0≤n) (hold (K n.toNat) .mk)
  |_=>False):=rfl
theorem f_aSlice {σ:Store}{t:TypeId}{x:AV}{lo hi mx:Option AV}{K:AV→Store→Prop}{k:Box K}:aSlice P t σ x lo hi mx (hold K k)=(match x,mx with
  | .lit (.string s),none=>chk (P.underlying t=some .string) (hold (
    optInt lo 0 (hold (fun l=>optInt hi s.size (hold (fun h=>chk (l≤h) (hold (chk (h≤s.size) (hold (K (.lit (.string (s.extract l h))) σ) .mk)) .mk)) .mk)) .mk)) .mk)
  | .arr es,none=>match tiOf P t with
    |some ⟨.slice sz _ _,_,_⟩=>chk (lens sz es) (hold (
      optInt lo 0 (hold (fun l=>optInt hi es.length (hold (fun h=>chk (l≤h) (hold (chk (h≤es.length) (hold (K (.arr ((es.drop l).take (h-l))) σ) .mk)) .mk)) .mk)) .mk)) .mk)
    |_=>False
  | .own l n,none=>match lo,tiOf P t with
    |none,some ⟨.slice _ _ _,_,_⟩=>optInt hi n (hold (fun h=>chk (h≤n) (hold (K (.pre l n h) σ) .mk)) .mk)
    |_,_=>False
  |_,_=>False):=rfl
theorem f_liveP {σ:Store}{x:AV}:liveP σ x=(match x with
  | .rptr _ _=>True
  | .ptr l _=>match σ[l]? with
    |some (.cells _)=>True
    |_=>False
  | .eptr l k _ _=>match σ[l]? with
    |some (.elems _ es)=>es.length=k∧es≠[]
    |_=>False
  |_=>False):=rfl
end
attribute [simp ↓] abr_hold_true abr_hold_false chk_true r_normal r_ret r_exit roundK_normal roundK_ret roundK_exit
  h_skip h_region h_draw h_seq h_cond h_block h_loop h_exit h_ret s_normal s_ret s_exit b_normal b_ret b_exit p_ret p_normal h_ops_nil h_ops_cons h_want_none h_want_some o_move q_move o_assign q_assign o_pick q_pick o_alloc q_alloc o_box q_box o_build q_build o_buildSlice q_buildSlice o_load q_load o_store q_store o_nilCheck q_nilCheck o_binOp q_binOp o_unOp q_unOp o_convert q_convert o_makeFunc q_makeFunc o_makeSlice q_makeSlice o_slice q_slice o_fieldAddr q_fieldAddr o_indexAddr q_indexAddr o_index q_index o_extract q_extract o_builtin q_builtin o_call q_call h_callV h_pcall h_put_none h_put_some h_P_nil h_P_cons h_dok_none h_dok_some h_arr_toList e_move e_assign e_pick e_alloc aB_int aB_bool aB_string aB_slice aB_fn aB_ptr aB_bld e_box e_build e_buildSlice e_load e_store e_nilCheck e_binOp e_unOp e_convert e_makeFunc e_makeSlice e_slice e_fieldAddr e_indexAddr e_index e_extract e_len e_append e_min e_max f_cellsK f_rdE f_rdN f_rd1 f_aLoad f_wrE f_wrN f_aStore f_aFieldAddr f_aIndexAddr f_aIndex f_aLen f_elemsK f_aAppend f_aBin f_aUn f_aConv f_frz_nil f_frz_cons f_frzs_nil f_frzs_cons f_frz1 f_frzT_nil f_frzT_cons f_frzR f_ares_nil f_ares_tmp f_ares_cell f_aFill_nil f_aFill_cons f_aBuild f_bfrz f_bfrzs isK_elems isK_cells isK_dead isK_pack isP_elems isP_cells isP_dead isP_pack f_aElems_nil f_aElems_cons f_aBuildSlice f_aMakeSlice f_optInt f_aSlice f_liveP
attribute [simp] wantV_bool wantV_undef u8Of u8s byteRow
attribute [simp] isK_elems isK_cells isK_dead isK_pack isP_elems isP_cells isP_dead isP_pack isM_elems isM_cells isM_dead isM_pack isPk_elems isPk_cells isPk_dead isPk_pack nzs
attribute [simp] nz AV.le AV.le.les frTo stTo Blk.le pack purs Blk.closed sclosed frSub AV.bnd AV.bnd.bnds ev frOf lk AV.adv Sh.isAgg putF
theorem cl_lit {n:Nat}{v:Value}:AV.closed n (.lit v)↔True:=by simp[AV.closed]
theorem cl_junk {n:Nat}:AV.closed n .junk↔True:=by simp[AV.closed]
theorem cl_arr {n:Nat}{es:List (List AV)}:AV.closed n (.arr es)↔True:=by simp[AV.closed]
theorem cl_rptr {n:Nat}{e:List AV}{o:Nat}:AV.closed n (.rptr e o)↔True:=by simp[AV.closed]
theorem cl_pre {n l i k:Nat}:AV.closed n (.pre l i k)↔l<n:=by simp[AV.closed]
theorem cl_own {n l k:Nat}:AV.closed n (.own l k)↔l<n:=by simp[AV.closed]
theorem cl_ptr {n l k:Nat}:AV.closed n (.ptr l k)↔l<n:=by simp[AV.closed]
theorem cl_eptr {n l k i o:Nat}:AV.closed n (.eptr l k i o)↔l<n:=by simp[AV.closed]
theorem cl_agg {n:Nat}{cs:List AV}:AV.closed n (.agg cs)↔AV.closed.closeds n cs:=by simp[AV.closed]
theorem cl_tup {n:Nat}{cs:List AV}:AV.closed n (.tup cs)↔AV.closed.closeds n cs:=by simp[AV.closed]
theorem cl_fn {n:Nat}{f:Fn}{xs ys:List AV}:AV.closed n (.fn f xs ys)↔AV.closed.closeds n xs∧AV.closed.closeds n ys:=by simp[AV.closed]
theorem cls_nil {n:Nat}:AV.closed.closeds n []↔True:=by simp[AV.closed.closeds]
theorem cls_cons {n:Nat}{x:AV}{r:List AV}:AV.closed.closeds n (x::r)↔x.closed n∧AV.closed.closeds n r:=by simp[AV.closed.closeds]
theorem pu_lit {v:Value}:AV.pure (.lit v)↔True:=by simp[AV.pure]
theorem pu_junk :AV.pure .junk↔True:=by simp[AV.pure]
theorem pu_arr {es:List (List AV)}:AV.pure (.arr es)↔True:=by simp[AV.pure]
theorem pu_rptr {e:List AV}{o:Nat}:AV.pure (.rptr e o)↔True:=by simp[AV.pure]
theorem pu_pre {l i k:Nat}:AV.pure (.pre l i k)↔False:=by simp[AV.pure]
theorem pu_own {l k:Nat}:AV.pure (.own l k)↔False:=by simp[AV.pure]
theorem pu_ptr {l k:Nat}:AV.pure (.ptr l k)↔False:=by simp[AV.pure]
theorem pu_agg {cs:List AV}:AV.pure (.agg cs)↔AV.pure.pures cs:=by simp[AV.pure]
theorem pu_tup {cs:List AV}:AV.pure (.tup cs)↔AV.pure.pures cs:=by simp[AV.pure]
theorem pu_fn {f:Fn}{xs ys:List AV}:AV.pure (.fn f xs ys)↔AV.pure.pures xs∧AV.pure.pures ys:=by simp[AV.pure]
theorem pus_nil :AV.pure.pures []↔True:=by simp[AV.pure.pures]
theorem pus_cons {x:AV}{r:List AV}:AV.pure.pures (x::r)↔x.pure∧AV.pure.pures r:=by simp[AV.pure.pures]
theorem one_bool {b:Bool}:oneV (.bool b)↔True:=by simp[oneV]
theorem one_int {k:IntKind}{b:Int}:oneV (.int k b)↔True:=by simp[oneV]
theorem one_string {b:ByteArray}:oneV (.string b)↔True:=by simp[oneV]
theorem one_slice {a:Option Addr}{l c:Nat}:oneV (.slice a l c)↔True:=by simp[oneV]
theorem one_pointer {a:Option Addr}:oneV (.pointer a)↔True:=by simp[oneV]
theorem one_map {a:Option Nat}:oneV (.map a)↔True:=by simp[oneV]
theorem one_nilFunc :oneV .nilFunc↔True:=by simp[oneV]
theorem ok_lit {σ:Store}{v:Value}:ok1 σ (.lit v)↔oneV v:=by simp[ok1]
theorem ok_arr {σ:Store}{es:List (List AV)}:ok1 σ (.arr es)↔True:=by simp[ok1]
theorem ok_rptr {σ:Store}{e:List AV}{o:Nat}:ok1 σ (.rptr e o)↔True:=by simp[ok1]
theorem ok_fn {σ:Store}{f:Fn}{xs ys:List AV}:ok1 σ (.fn f xs ys)↔True:=by simp[ok1]
theorem ok_own {σ:Store}{l n:Nat}:ok1 σ (.own l n)=(match σ[l]? with|some (.elems _ es)=>es.length=n|_=>False):=rfl
theorem ok_ptr {σ:Store}{l n:Nat}:ok1 σ (.ptr l n)=(match σ[l]? with|some (.cells _)=>True|_=>False):=rfl
theorem ok_eptr {σ:Store}{l n i o:Nat}:ok1 σ (.eptr l n i o)=(match σ[l]? with|some (.elems _ es)=>es.length=n∧es≠[]|_=>False):=rfl
theorem oks_nil {σ:Store}:allOk1 σ []↔True:=by simp[allOk1]
theorem oks_cons {σ:Store}{x:AV}{r:List AV}:allOk1 σ (x::r)↔ok1 σ x∧allOk1 σ r:=by simp[allOk1]
attribute [simp] cl_pre pu_pre cl_lit cl_junk cl_arr cl_rptr cl_own cl_ptr cl_eptr cl_agg cl_tup cl_fn cls_nil cls_cons pu_lit pu_junk pu_arr pu_rptr pu_own pu_ptr pu_agg pu_tup pu_fn pus_nil pus_cons one_bool one_int one_string one_slice one_pointer one_map one_nilFunc ok_lit ok_arr ok_rptr ok_fn ok_own ok_ptr ok_eptr oks_nil oks_cons
end Go.Vl
