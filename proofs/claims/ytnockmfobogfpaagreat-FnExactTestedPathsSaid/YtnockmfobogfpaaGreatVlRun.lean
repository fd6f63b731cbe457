/- Part. -/
import Derived.Test.YtnockmfobogfpaaGreatVlStep
set_option linter.all false
open List renaming toArray->zA,map_cons->zB,map_nil->zC
namespace Go.Vl
open Go Go.RowKit
open AV renaming closed->zD,pure->zE,cellsK->zF
section
variable {P : Program} {B nb N : Nat}
variable {Q:Exit->ASt->Prop}{q:Box Q}{st:ASt}
theorem ZPs :awp P B nb N .skip st (hold Q q)=(Q .normal st):=rfl
variable {id:Nat}
theorem ZL7 {l:List Oper}:awp P B nb N (.region id (zA l) false) st (hold Q q)=(ZIi P B N (hold (zA l) .mk) l st (hold (Q .normal) .mk)):=by simp only[awp,Bool.false_eq_true,if_false,hold]
variable {ops:Array Oper}
theorem ZPv :awp P B nb N (.region id ops true) st (hold Q q)=(ADraw P B nb N (hold ops .mk) st (hold (Q .normal) .mk)):=by simp only[awp,if_true,hold]
variable {b:Code}
theorem ZRB {a:Code}:awp P B nb N (.seq a b) st (hold Q q)=(awp P B nb N a st (hold (ZQW P B nb N b Q) .mk)):=by simp only[hold];rw[awp];congr
variable {c:Operand}
theorem ZPw {Q:Exit -> ASt -> Prop}{q:Box Q}{a:Code} : awp P B nb N (.cond c a b) st (hold Q q) = (match ev st.fr c with
    | .lit (.bool v)=>abr (v=true) (hold (awp P B nb N a st (hold Q .mk)) .mk) (hold (awp P B nb N b st (hold Q .mk)) .mk)
    |_=>False):=by
  simp only[awp,hold]
  generalize ev st.fr c=v
  cases v<;>try rfl
  next v=>cases v<;>first|exact ZH0.symm|rfl
theorem ZN0 {c:Code}:awp P B nb N (.block id c) st (hold Q q)=(awp P B nb N c st (hold (ZIg id Q) .mk)):=by simp only[hold];rw[awp];congr
theorem ZPt {c:Code}:awp P B nb N (.loop c) st (hold Q q)=(ALoop P B nb N (hold c .mk) st (hold Q .mk)):=rfl
variable {i:Nat}
theorem ZPu :awp P B nb N (.exit i) st (hold Q q)=(Q (.exit i) st):=rfl
theorem ZRC :awp P B nb N .ret st (hold Q q)=(Q .ret st):=rfl
variable {bQ:Box Q}
theorem ZLg {c:Code}{bc:Box c}:ZFo P B nb N (hold c bc) (hold Q bQ) .normal st=Again P B nb N (hold c .mk) (hold Q .mk) st:=rfl
theorem ZQq {c:Code}{bc:Box c}:ZFo P B nb N (hold c bc) (hold Q bQ) .ret st=Leave B nb N (hold Q .mk) .ret st:=rfl
theorem ZO4 {c:Code}{bc:Box c}:ZFo P B nb N (hold c bc) (hold Q bQ) (.exit i) st=Leave B nb N (hold Q .mk) (.exit i) st:=rfl
theorem ZLe :ZQW P B nb N b Q .normal st=(awp P B nb N b st (hold Q .mk)):=rfl
theorem ZQl :ZQW P B nb N b Q .ret st=(Q .ret st):=rfl
theorem ZO0 :ZQW P B nb N b Q (.exit i) st=(Q (.exit i) st):=rfl
theorem ZMc :ZIg i Q .normal st=(Q .normal st):=rfl
theorem ZRR :ZIg i Q .ret st=(Q .ret st):=rfl
variable {j:Nat}
theorem ZQN :ZIg i Q (.exit j) st=(if j=i then Q .normal st else Q (.exit j) st):=rfl
variable {K:AV->ZE->Prop}
theorem ZQt {fn:Func}:ZAB P fn K .ret st=(ZBV P st.σ st.fr fn.results.toList (hold (fun xs=>ZLT st.σ (pack xs) (hold K .mk)) .mk)):=rfl
theorem ZLp {fn:Func}:ZAB P fn K .normal st=(ZBV P st.σ st.fr fn.results.toList (hold (fun xs=>ZLT st.σ (pack xs) (hold K .mk)) .mk)):=rfl
theorem ZKx {K:ASt->Prop}{k:Box K}:ZIi P B N ops [] st (hold K k)=(K st):=rfl
variable {bo:Box ops}{rest:List Oper}
theorem ZJQ {K:ASt->Prop}{k:Box K}{o:Oper}:ZIi P B N (hold ops bo) (o::rest) st (hold K k)=(ZAX (hold ops .mk) st.fr o.guard (hold (aop P B N o st (hold (fun st'=>ZIi P B N (hold ops .mk) rest st' (hold K .mk)) .mk)) .mk) (hold (ZAN N o.dst (.lit undef) st.fr st.σ (hold (fun st'=>ZIi P B N (hold ops .mk) rest st' (hold K .mk)) .mk)) .mk)):=rfl
variable {fr:Frm}
theorem ZHa {y n:Prop}{b:Box y}{b':Box n}:ZAX (hold ops bo) fr none (hold y b) (hold n b')=(y):=rfl
def ZJ0 (w:Bool)(v:AV)(y n:Prop):Prop:=match v with
  | .lit (.bool b)=>abr (b=w) (hold y .mk) (hold n .mk)
  | .lit _=>n
  |_=>False
variable {w:Bool}
theorem ZIo {b:Bool}{y n:Prop}{k:Box y}{k':Box n}:ZJ0 w (.lit (.bool b)) (hold y k) (hold n k')=abr (b=w) (hold y .mk) (hold n .mk):=rfl
theorem ZGv {y n:Prop}{k:Box y}{k':Box n}:ZJ0 w (.lit undef) (hold y k) (hold n k')=n:=rfl
theorem ZHZ {y n:Prop}{b:Box y}{b':Box n} : ZAX (hold ops bo) fr (some (j, w)) (hold y b) (hold n b') = (match (ops[j]?).bind (·.dst) with
      |none=>False
      |some d=>ZJ0 w (lk fr d) (hold y .mk) (hold n .mk)):=by
  simp only[ZAX,hold]
  generalize(ops[j]?).bind (fun x=>x.dst)=od
  cases od with
  |none=>rfl
  |some d=>
    simp only[]
    generalize lk fr d=v
    cases v<;>try rfl
    next v=>cases v<;>first|(simp only[yb,ZJ0,Option.some.injEq];exact ZH0.symm)|(simp[yb,ZJ0,hold];done)|rfl
variable {x:Operand}{d:Option Nat}{t:TypeId}{p:String}{es:Array Edge}{g:Option (Nat×Bool)}
theorem ZPW {K:ASt->Prop}{k:Box K}:aop P B N ⟨d,.move x,t,p,es,g⟩ st (hold K k)=(aef P B (.move x) (ev st.fr) st.σ (hold (fun r σ'=>ZAN N d r st.fr σ' (hold K .mk)) .mk)):=rfl
variable {σ:ZE}
theorem ZO8 {K:AV->Prop}{k:Box K}:ZCf P B (.move x) fr σ (hold K k)=(aef P B (.move x) (ev fr) σ (hold (fun r σ'=>chk (σ'=σ) (hold (K r) .mk)) .mk)):=rfl
theorem ZLw {K:ASt->Prop}{k:Box K}:aop P B N ⟨d,.assign x,t,p,es,g⟩ st (hold K k)=(aef P B (.assign x) (ev st.fr) st.σ (hold (fun r σ'=>ZAN N d r st.fr σ' (hold K .mk)) .mk)):=rfl
theorem ZLi {K:AV->Prop}{k:Box K}:ZCf P B (.assign x) fr σ (hold K k)=(aef P B (.assign x) (ev fr) σ (hold (fun r σ'=>chk (σ'=σ) (hold (K r) .mk)) .mk)):=rfl
variable {a:Operand}
theorem ZPV {b:Operand}{K:ASt->Prop}{k:Box K}:aop P B N ⟨d,.pick c a b,t,p,es,g⟩ st (hold K k)=(aef P B (.pick c a b) (ev st.fr) st.σ (hold (fun r σ'=>ZAN N d r st.fr σ' (hold K .mk)) .mk)):=rfl
theorem ZO7 {b:Operand}{K:AV->Prop}{k:Box K}:ZCf P B (.pick c a b) fr σ (hold K k)=(aef P B (.pick c a b) (ev fr) σ (hold (fun r σ'=>chk (σ'=σ) (hold (K r) .mk)) .mk)):=rfl
variable {e:TypeId}
theorem ZNl {K:ASt->Prop}{k:Box K}:aop P B N ⟨d,.alloc e,t,p,es,g⟩ st (hold K k)=(aef P B (.alloc e) (ev st.fr) st.σ (hold (fun r σ'=>ZAN N d r st.fr σ' (hold K .mk)) .mk)):=rfl
theorem ZNQ {K:AV->Prop}{k:Box K}:ZCf P B (.alloc e) fr σ (hold K k)=(aef P B (.alloc e) (ev fr) σ (hold (fun r σ'=>chk (σ'=σ) (hold (K r) .mk)) .mk)):=rfl
theorem ZQv {K:ASt->Prop}{k:Box K}:aop P B N ⟨d,.box e x,t,p,es,g⟩ st (hold K k)=(aef P B (.box e x) (ev st.fr) st.σ (hold (fun r σ'=>ZAN N d r st.fr σ' (hold K .mk)) .mk)):=rfl
theorem ZQr {K:AV->Prop}{k:Box K}:ZCf P B (.box e x) fr σ (hold K k)=(aef P B (.box e x) (ev fr) σ (hold (fun r σ'=>chk (σ'=σ) (hold (K r) .mk)) .mk)):=rfl
variable {ty:TypeId}{parts:Array (Nat×Operand)}
theorem ZNj {K:ASt->Prop}{k:Box K}:aop P B N ⟨d,.build ty parts,t,p,es,g⟩ st (hold K k)=(aef P B (.build ty parts) (ev st.fr) st.σ (hold (fun r σ'=>ZAN N d r st.fr σ' (hold K .mk)) .mk)):=rfl
theorem ZNO {K:AV->Prop}{k:Box K}:ZCf P B (.build ty parts) fr σ (hold K k)=(aef P B (.build ty parts) (ev fr) σ (hold (fun r σ'=>chk (σ'=σ) (hold (K r) .mk)) .mk)):=rfl
variable {len:Nat}
theorem ZF4 {K:ASt->Prop}{k:Box K}:aop P B N ⟨d,.buildSlice ty len parts,t,p,es,g⟩ st (hold K k)=(aef P B (.buildSlice ty len parts) (ev st.fr) st.σ (hold (fun r σ'=>ZAN N d r st.fr σ' (hold K .mk)) .mk)):=rfl
theorem ZFt {K:AV->Prop}{k:Box K}:ZCf P B (.buildSlice ty len parts) fr σ (hold K k)=(aef P B (.buildSlice ty len parts) (ev fr) σ (hold (fun r σ'=>chk (σ'=σ) (hold (K r) .mk)) .mk)):=rfl
theorem ZPX {K:ASt->Prop}{k:Box K}:aop P B N ⟨d,.load ty x,t,p,es,g⟩ st (hold K k)=(aef P B (.load ty x) (ev st.fr) st.σ (hold (fun r σ'=>ZAN N d r st.fr σ' (hold K .mk)) .mk)):=rfl
theorem ZO9 {K:AV->Prop}{k:Box K}:ZCf P B (.load ty x) fr σ (hold K k)=(aef P B (.load ty x) (ev fr) σ (hold (fun r σ'=>chk (σ'=σ) (hold (K r) .mk)) .mk)):=rfl
theorem ZNg {v:Operand}{K:ASt->Prop}{k:Box K}:aop P B N ⟨d,.store ty x v,t,p,es,g⟩ st (hold K k)=(aef P B (.store ty x v) (ev st.fr) st.σ (hold (fun r σ'=>ZAN N d r st.fr σ' (hold K .mk)) .mk)):=rfl
theorem ZNL {v:Operand}{K:AV->Prop}{k:Box K}:ZCf P B (.store ty x v) fr σ (hold K k)=(aef P B (.store ty x v) (ev fr) σ (hold (fun r σ'=>chk (σ'=σ) (hold (K r) .mk)) .mk)):=rfl
theorem ZJG {K:ASt->Prop}{k:Box K}:aop P B N ⟨d,.nilCheck x,t,p,es,g⟩ st (hold K k)=(aef P B (.nilCheck x) (ev st.fr) st.σ (hold (fun r σ'=>ZAN N d r st.fr σ' (hold K .mk)) .mk)):=rfl
theorem ZI1 {K:AV->Prop}{k:Box K}:ZCf P B (.nilCheck x) fr σ (hold K k)=(aef P B (.nilCheck x) (ev fr) σ (hold (fun r σ'=>chk (σ'=σ) (hold (K r) .mk)) .mk)):=rfl
variable {op:BinOp}{y:Operand}{ty2:TypeId}
theorem ZNk {K:ASt->Prop}{k:Box K}:aop P B N ⟨d,.binOp op ty x y ty2,t,p,es,g⟩ st (hold K k)=(aef P B (.binOp op ty x y ty2) (ev st.fr) st.σ (hold (fun r σ'=>ZAN N d r st.fr σ' (hold K .mk)) .mk)):=rfl
theorem ZNP {K:AV->Prop}{k:Box K}:ZCf P B (.binOp op ty x y ty2) fr σ (hold K k)=(aef P B (.binOp op ty x y ty2) (ev fr) σ (hold (fun r σ'=>chk (σ'=σ) (hold (K r) .mk)) .mk)):=rfl
theorem ZPU {op:UnOp}{K:ASt->Prop}{k:Box K}:aop P B N ⟨d,.unOp op ty x,t,p,es,g⟩ st (hold K k)=(aef P B (.unOp op ty x) (ev st.fr) st.σ (hold (fun r σ'=>ZAN N d r st.fr σ' (hold K .mk)) .mk)):=rfl
theorem ZO6 {op:UnOp}{K:AV->Prop}{k:Box K}:ZCf P B (.unOp op ty x) fr σ (hold K k)=(aef P B (.unOp op ty x) (ev fr) σ (hold (fun r σ'=>chk (σ'=σ) (hold (K r) .mk)) .mk)):=rfl
theorem ZKh {K:ASt->Prop}{k:Box K}:aop P B N ⟨d,.convert ty ty2 x,t,p,es,g⟩ st (hold K k)=(aef P B (.convert ty ty2 x) (ev st.fr) st.σ (hold (fun r σ'=>ZAN N d r st.fr σ' (hold K .mk)) .mk)):=rfl
theorem ZKF {K:AV->Prop}{k:Box K}:ZCf P B (.convert ty ty2 x) fr σ (hold K k)=(aef P B (.convert ty ty2 x) (ev fr) σ (hold (fun r σ'=>chk (σ'=σ) (hold (K r) .mk)) .mk)):=rfl
variable {first captured:Array Operand}
theorem ZJH {fn:Fn}{K:ASt->Prop}{k:Box K}:aop P B N ⟨d,.makeFunc fn first captured,t,p,es,g⟩ st (hold K k)=(aef P B (.makeFunc fn first captured) (ev st.fr) st.σ (hold (fun r σ'=>ZAN N d r st.fr σ' (hold K .mk)) .mk)):=rfl
theorem ZI2 {fn:Fn}{K:AV->Prop}{k:Box K}:ZCf P B (.makeFunc fn first captured) fr σ (hold K k)=(aef P B (.makeFunc fn first captured) (ev fr) σ (hold (fun r σ'=>chk (σ'=σ) (hold (K r) .mk)) .mk)):=rfl
variable {cap:Operand}
theorem ZHL {len:Operand}{K:ASt->Prop}{k:Box K}:aop P B N ⟨d,.makeSlice ty len cap,t,p,es,g⟩ st (hold K k)=(aef P B (.makeSlice ty len cap) (ev st.fr) st.σ (hold (fun r σ'=>ZAN N d r st.fr σ' (hold K .mk)) .mk)):=rfl
theorem ZG9 {len:Operand}{K:AV->Prop}{k:Box K}:ZCf P B (.makeSlice ty len cap) fr σ (hold K k)=(aef P B (.makeSlice ty len cap) (ev fr) σ (hold (fun r σ'=>chk (σ'=σ) (hold (K r) .mk)) .mk)):=rfl
variable {low high mx:Option Operand}
theorem ZNh {K:ASt->Prop}{k:Box K}:aop P B N ⟨d,.slice ty x low high mx,t,p,es,g⟩ st (hold K k)=(aef P B (.slice ty x low high mx) (ev st.fr) st.σ (hold (fun r σ'=>ZAN N d r st.fr σ' (hold K .mk)) .mk)):=rfl
theorem ZNM {K:AV->Prop}{k:Box K}:ZCf P B (.slice ty x low high mx) fr σ (hold K k)=(aef P B (.slice ty x low high mx) (ev fr) σ (hold (fun r σ'=>chk (σ'=σ) (hold (K r) .mk)) .mk)):=rfl
variable {f:Nat}
theorem ZHN {K:ASt->Prop}{k:Box K}:aop P B N ⟨d,.fieldAddr ty x f,t,p,es,g⟩ st (hold K k)=(aef P B (.fieldAddr ty x f) (ev st.fr) st.σ (hold (fun r σ'=>ZAN N d r st.fr σ' (hold K .mk)) .mk)):=rfl
theorem ZHB {K:AV->Prop}{k:Box K}:ZCf P B (.fieldAddr ty x f) fr σ (hold K k)=(aef P B (.fieldAddr ty x f) (ev fr) σ (hold (fun r σ'=>chk (σ'=σ) (hold (K r) .mk)) .mk)):=rfl
theorem ZHM {i:Operand}{K:ASt->Prop}{k:Box K}:aop P B N ⟨d,.indexAddr ty x i,t,p,es,g⟩ st (hold K k)=(aef P B (.indexAddr ty x i) (ev st.fr) st.σ (hold (fun r σ'=>ZAN N d r st.fr σ' (hold K .mk)) .mk)):=rfl
theorem ZHA {i:Operand}{K:AV->Prop}{k:Box K}:ZCf P B (.indexAddr ty x i) fr σ (hold K k)=(aef P B (.indexAddr ty x i) (ev fr) σ (hold (fun r σ'=>chk (σ'=σ) (hold (K r) .mk)) .mk)):=rfl
theorem ZNi {i:Operand}{K:ASt->Prop}{k:Box K}:aop P B N ⟨d,.index ty x i,t,p,es,g⟩ st (hold K k)=(aef P B (.index ty x i) (ev st.fr) st.σ (hold (fun r σ'=>ZAN N d r st.fr σ' (hold K .mk)) .mk)):=rfl
theorem ZNN {i:Operand}{K:AV->Prop}{k:Box K}:ZCf P B (.index ty x i) fr σ (hold K k)=(aef P B (.index ty x i) (ev fr) σ (hold (fun r σ'=>chk (σ'=σ) (hold (K r) .mk)) .mk)):=rfl
theorem ZKg {K:ASt->Prop}{k:Box K}:aop P B N ⟨d,.extract x i,t,p,es,g⟩ st (hold K k)=(aef P B (.extract x i) (ev st.fr) st.σ (hold (fun r σ'=>ZAN N d r st.fr σ' (hold K .mk)) .mk)):=rfl
theorem ZKE {K:AV->Prop}{k:Box K}:ZCf P B (.extract x i) fr σ (hold K k)=(aef P B (.extract x i) (ev fr) σ (hold (fun r σ'=>chk (σ'=σ) (hold (K r) .mk)) .mk)):=rfl
variable {args:Array Operand}{ts:Array TypeId}
theorem ZKi {bi:Builtin}{K:ASt->Prop}{k:Box K}:aop P B N ⟨d,.call {callee:=.builtin bi,args:=args,argTypes:=ts},t,p,es,g⟩ st (hold K k)=(aef P B (.call {callee:=.builtin bi,args:=args,argTypes:=ts}) (ev st.fr) st.σ (hold (fun r σ'=>ZAN N d r st.fr σ' (hold K .mk)) .mk)):=rfl
theorem ZKG {bi:Builtin}{K:AV->Prop}{k:Box K}:ZCf P B (.call {callee:=.builtin bi,args:=args,argTypes:=ts}) fr σ (hold K k)=(aef P B (.call {callee:=.builtin bi,args:=args,argTypes:=ts}) (ev fr) σ (hold (fun r σ'=>chk (σ'=σ) (hold (K r) .mk)) .mk)):=rfl
theorem ZPY {f:Operand}{K:ASt->Prop}{k:Box K}:aop P B N ⟨d,.call {callee:=.value f,args:=args,argTypes:=ts},t,p,es,g⟩ st (hold K k)=(ZEz P B (ev st.fr f) (args.toList.map (ev st.fr)) st.σ (hold (fun r σ'=>ZAN N d r st.fr σ' (hold K .mk)) .mk)):=rfl
theorem ZPA {f:Operand}{K:AV->Prop}{k:Box K}:ZCf P B (.call {callee:=.value f,args:=args,argTypes:=ts}) fr σ (hold K k)=(PCall P B (ev fr f) (args.toList.map (ev fr)) (hold K .mk)):=rfl
theorem ZNz {f:AV}{args:List AV}{K:AV -> ZE -> Prop}{k:Box K} : ZEz P B f args σ (hold K k) = (match f with
    | .fn (.func i) first cap=>ACall P B i (first++args++cap) σ (hold K .mk)
    |_=>False):=by
  cases f<;>try rfl
theorem ZNy {f : AV} {args : List AV}{K : AV -> Prop} {k : Box K} : PCall P B f args (hold K k) = (match f with
    | .fn (.func i) first cap=>ZE0 P B i (first++args++cap) (hold K .mk)
    |_=>False):=by
  cases f<;>try rfl
theorem ZJP {r:AV}{K:ASt->Prop}{k:Box K}:ZAN N none r fr σ (hold K k)=(K ⟨fr,σ⟩):=rfl
theorem ZJO {d:Nat}{r:AV}{K:ASt->Prop}{k:Box K}(h:d<N):ZAN N (some d) r fr σ (hold K k)=K ⟨(d,r)::fr,σ⟩:=by simp[ZAN,hold,h]
theorem ZN1 {K:Frm->Prop}{k:Box K}:aP P B N ops [] fr σ (hold K k)=(K fr):=rfl
theorem ZL8 {o:Oper}{K:Frm->Prop}{k:Box K}:aP P B N (hold ops bo) (o::rest) fr σ (hold K k)=(ZAX (hold ops .mk) fr o.guard (hold (ZCf P B o.op fr σ (hold (fun r=>ZCe N o.dst (hold (aP P B N (hold ops .mk) rest (Zs o.dst r fr) σ (hold K .mk)) .mk)) .mk)) .mk) (hold (ZCe N o.dst (hold (aP P B N (hold ops .mk) rest (Zs o.dst (.lit undef) fr) σ (hold K .mk)) .mk)) .mk)):=by rw[aP];rfl
theorem ZJS {K:Prop}{k:Box K}:ZCe N none (hold K k)=(K):=by simp[ZCe,dOk,hold]
theorem ZJR {d:Nat}{K:Prop}{k:Box K}(h:d<N):ZCe N (some d) (hold K k)=K:=by simp[ZCe,dOk,hold,h]
theorem ZGH {α:Type}{l:List α}:(zA l).toList=(l):=rfl
variable {ρ:Operand->AV}{k:Box K}
theorem ZQD :aef P B (.move x) ρ σ (hold K k)=(K (ρ x) σ):=rfl
theorem ZMW :aef P B (.assign x) ρ σ (hold K k)=(K (ρ x) σ):=rfl
theorem ZQC {b:Operand}{ρ:Operand -> AV}{K:AV -> ZE -> Prop}{k:Box K} : aef P B (.pick c a b) ρ σ (hold K k) = (match ρ c with
    | .lit (.bool v)=>abr (v=true) (hold (K (ρ a) σ) .mk) (hold (K (ρ b) σ) .mk)
    |_=>False):=by
  simp only[aef,hold]
  generalize ρ c=v
  cases v<;>try rfl
  next v=>cases v<;>first|(rename_i v;cases v<;>simp[abr];done)|rfl
theorem ZOX {ρ:Operand -> AV}{K:AV -> ZE -> Prop}{k:Box K} : aef P B (.alloc t) ρ σ (hold K k) = (match Zg P t with
    |some i=>chk (i.zero≠[]) (hold (K (.ptr σ.length 0) (σ++[ZBW t i.zero])) .mk)
    |none=>False):=rfl
variable {r:List Value}
theorem ZQR {k:IntKind}{n:Int}:ZBW t (.int k n::r)=.cells ((.int k n::r).map .lit):=rfl
theorem ZOi {b:Bool}:ZBW t (.bool b::r)=.cells ((.bool b::r).map .lit):=rfl
theorem ZLQ {s:ByteArray}:ZBW t (.string s::r)=.cells ((.string s::r).map .lit):=rfl
variable {n:Nat}
theorem ZMl {a:Option Addr}{c:Nat}:ZBW t (.slice a n c::r)=.cells ((.slice a n c::r).map .lit):=rfl
theorem ZRT :ZBW t (.nilFunc::r)=.cells ((.nilFunc::r).map .lit):=rfl
theorem ZQQ {p:Option Addr}:ZBW t [.pointer p]=.cells [.lit (.pointer p)]:=by cases p<;>rfl
theorem ZQS :ZBW t [.pointer none,.slice none 0 0]=.tcells (some t) [.junk,.lit (.slice none 0 0)]:=rfl
theorem ZRP :aef P B (.box t x) ρ σ (hold K k)=(zF σ (ρ x) (hold (fun cs=>K (.ptr σ.length 0) (σ++[.cells cs])) .mk)):=rfl
theorem ZOV :aef P B (.build t parts) ρ σ (hold K k)=(ZBv P t σ (parts.toList.map fun p=>(p.1,ρ p.2)) (hold K .mk)):=rfl
theorem ZGY :aef P B (.buildSlice t len parts) ρ σ (hold K k)=(ZAD P B t σ len (parts.toList.map fun p=>(p.1,ρ p.2)) (hold K .mk)):=rfl
theorem ZQE :aef P B (.load t x) ρ σ (hold K k)=(ZC1 P t σ (ρ x) (hold (fun r=>K r σ) .mk)):=rfl
theorem ZOS :aef P B (.store t a x) ρ σ (hold K k)=(ZEB P t σ (ρ a) (ρ x) (hold (fun σ'=>K (.lit undef) σ') .mk)):=rfl
theorem ZJc :aef P B (.nilCheck x) ρ σ (hold K k)=(chk (ZB2 σ (ρ x)) (hold (K (ρ x) σ) .mk)):=rfl
theorem ZOW {yt:TypeId}:aef P B (.binOp op t x y yt) ρ σ (hold K k)=(ZOh P op t (ρ x) (ρ y) (hold (fun r=>K r σ) .mk)):=rfl
theorem ZQB {op:UnOp}:aef P B (.unOp op t x) ρ σ (hold K k)=(aUn op (ρ x) (hold (fun r=>K r σ) .mk)):=rfl
theorem ZK6 {s d:TypeId}:aef P B (.convert s d x) ρ σ (hold K k)=(ZEN P s d σ (ρ x) (hold (fun r=>K r σ) .mk)):=rfl
theorem ZJd {fn:Fn}{cap:Array Operand}:aef P B (.makeFunc fn first cap) ρ σ (hold K k)=(K (.fn fn (first.toList.map ρ) (cap.toList.map ρ)) σ):=rfl
theorem ZHo {l:Operand}:aef P B (.makeSlice t l c) ρ σ (hold K k)=(ZAS P B t σ (ρ l) (ρ c) (hold K .mk)):=rfl
theorem ZOT {lo hi:Option Operand}:aef P B (.slice t x lo hi mx) ρ σ (hold K k)=(ZBt P t σ (ρ x) (lo.map ρ) (hi.map ρ) (mx.map ρ) (hold K .mk)):=rfl
theorem ZHq :aef P B (.fieldAddr t x f) ρ σ (hold K k)=(ZAF P t σ (ρ x) f (hold (fun r=>K r σ) .mk)):=rfl
theorem ZHp {i:Operand}:aef P B (.indexAddr t x i) ρ σ (hold K k)=(Zm P t σ (ρ x) (ρ i) (hold (fun r=>K r σ) .mk)):=rfl
theorem ZOU {i:Operand}:aef P B (.index t x i) ρ σ (hold K k)=(ZDA P t (ρ x) (ρ i) (hold (fun r=>K r σ) .mk)):=rfl
theorem ZK5 {ρ:Operand -> AV}{K:AV -> ZE -> Prop}{k:Box K} : aef P B (.extract x i) ρ σ (hold K k) = (match ρ x with
    | .tup vs=>chk (i<vs.length) (hold (K (vs.getD i .junk) σ) .mk)
    |_=>False):=rfl
theorem ZRO {y:Operand}{t2:TypeId}:aef P B (.call {callee:=.builtin .len,args:=zA [x],argTypes:=zA [t]}) ρ σ (hold K k)=(ZMj P t σ (ρ x) (hold (fun r=>K r σ) .mk)):=rfl
variable {t2:TypeId}
theorem ZMX :aef P B (.call {callee:=.builtin .append,args:=zA [x,y],argTypes:=zA [t,t2]}) ρ σ (hold K k)=(ZB9 P B t t2 σ (ρ x) (ρ y) (hold K .mk)):=rfl
theorem ZRM {ρ:Operand -> AV}{K:AV -> ZE -> Prop}{k:Box K} : aef P B (.call { callee := .builtin .min, args := zA [x, y], argTypes := zA [t, t2] }) ρ σ (hold K k) = (match ρ x, ρ y with
    | .lit (.int k a),.lit (.int _ b)=>K (.lit (.int k (if b<a then b else a))) σ
    |_,_=>False):=by
  simp only[aef,hold,zB,zC]
  unfold ZAw
  generalize ρ x=v;generalize ρ y=u
  cases v<;>try rfl
  next v => cases v <;> try rfl
            cases u<;>try rfl
            next u=>cases u<;>rfl
theorem ZRN {ρ:Operand -> AV}{K:AV -> ZE -> Prop}{k:Box K} : aef P B (.call { callee := .builtin .max, args := zA [x, y], argTypes := zA [t, t2] }) ρ σ (hold K k) = (match ρ x, ρ y with
    | .lit (.int k a),.lit (.int _ b)=>K (.lit (.int k (if b>a then b else a))) σ
    |_,_=>False):=by
  simp only[aef,hold,zB,zC]
  unfold ZAw
  generalize ρ x=v;generalize ρ y=u
  cases v<;>try rfl
  next v => cases v <;> try rfl
            cases u<;>try rfl
            next u=>cases u<;>rfl
theorem ZMR {x:AV}{K:List AV->Prop}{k:Box K}:zF σ x (hold K k)=(match x with
  | .agg cs=>K cs
  | .lit v=>chk (ZBR v) (hold (K [.lit v]) .mk)
  | .arr es=>K [.arr es]
  | .rptr e o=>K [.rptr e o]
  | .fn f a b=>K [.fn f a b]
  | .own l n=>chk (ok1 σ (.own l n)) (hold (K [.own l n]) .mk)
  | .ptr l n=>chk (ok1 σ (.ptr l n)) (hold (K [.ptr l n]) .mk)
  | .eptr l n i o=>chk (ok1 σ (.eptr l n i o)) (hold (K [.eptr l n i o]) .mk)
  | .junk=>False
  | .pre _ _ _=>False
  | .tup _=>False):=by cases x<;>simp[zF,ok1,hold,chk]
theorem ZRJ {e:List AV}{off:Nat}{K:List AV->Prop}{k:Box K}:rdE e off n (hold K k)=(if off=0/\n=e.length then K e else chk (off+n<=e.length) (hold (K ((e.drop off).take n)) .mk)):=rfl
theorem ZRI {p:AV}{K:List AV->Prop}{k:Box K}:rdN σ p n (hold K k)=(match p with
  | .rptr e off=>rdE e off n (hold K .mk)
  | .ptr l off=>match σ[l]? with
    |some (.cells cs)=>rdE cs off n (hold K .mk)
    |_=>False
  | .eptr l k i off=>match σ[l]? with
    |some (.elems _ es)=>chk (es.length=k) (hold (chk (i<es.length) (hold (rdE (es.getD i []) off n (hold K .mk)) .mk)) .mk)
    |_=>False
  |_=>False):=rfl
theorem ZRK {p:AV}{K:AV->Prop}{k:Box K}:rd1 σ p (hold K k)=(match p with
  | .rptr e off=>chk (off<e.length) (hold (K (e.getD off .junk)) .mk)
  | .ptr l off=>match σ[l]? with
    |some (.cells cs)=>chk (off<cs.length) (hold (K (cs.getD off .junk)) .mk)
    |_=>False
  | .eptr l k i off=>match σ[l]? with
    |some (.elems _ es)=>chk (es.length=k) (hold (chk (i<es.length) (hold (chk (off<(es.getD i []).length) (hold (K ((es.getD i []).getD off .junk)) .mk)) .mk)) .mk)
    |_=>False
  |_=>False):=rfl
theorem ZOM {p:AV}{K:AV->Prop}{k:Box K}:ZC1 P t σ p (hold K k)=(match Zg P t with
  |some i=>if i.sh.isAgg then rdN σ p i.size (hold (fun cs=>K (.agg cs)) .mk)else rd1 σ p (hold K .mk)
  |none=>False):=rfl
variable {cs:List AV}
theorem ZRH {e:List AV}{off:Nat}{K:List AV->Prop}{k:Box K}:wrE e off cs (hold K k)=(if off=0/\cs.length=e.length then K cs
  else chk (off+cs.length<=e.length) (hold (K (e.take off++cs++e.drop (off+cs.length))) .mk)):=rfl
theorem ZRG {p:AV}{K:ZE->Prop}{k:Box K}:wrN σ p cs (hold K k)=(match p with
  | .ptr l off=>match σ[l]? with
    |some (.cells old)=>wrE old off cs (hold (fun new=>K (σ.set l (.cells new))) .mk)
    |_=>False
  | .eptr l k i off=>match σ[l]? with
    |some (.elems sz es)=>chk (es.length=k) (hold (chk (i<es.length) (hold (wrE (es.getD i []) off cs (hold (fun new=>K (σ.set l (.elems sz (es.set i (new.map (nzs σ)))))) .mk)) .mk)) .mk)
    |_=>False
  |_=>False):=rfl
theorem ZMS {p v:AV}{K:ZE->Prop}{k:Box K}:ZEB P t σ p v (hold K k)=(match Zg P t with
  |some i=>zF σ v (hold (fun cs=>chk (cs.length=i.size) (hold (chk (Zl σ cs) (hold (wrN σ p cs (hold K .mk)) .mk)) .mk)) .mk)
  |none=>False):=rfl
theorem ZGW {p:AV}{K:AV->Prop}{k:Box K}:ZAF P t σ p f (hold K k)=(match Zg P t with
  |some ⟨.struct offs,_,_⟩=>match offs[f]? with
    |some (o,s+1)=>chk (ZB2 σ p) (hold (K (p.adv o)) .mk)
    |_=>False
  |_=>False):=rfl
theorem ZGU {x i:AV}{K:AV->Prop}{k:Box K}:Zm P t σ x i (hold K k)=(match i,Zg P t with
  | .lit (.int _ n),some ⟨.slice sz _ _,_,_⟩=>match x with
    | .arr es=>chk (0<=n) (hold (chk (n.toNat<es.length) (hold (chk ((es.getD n.toNat []).length=sz) (hold (K (.rptr (es.getD n.toNat []) 0)) .mk)) .mk)) .mk)
    | .own l k=>match σ[l]? with
      |some (.elems sz' es)=>chk (es.length=k) (hold (chk (sz'=sz) (hold (chk (0<=n) (hold (chk (n.toNat<k) (hold (K (.eptr l k n.toNat 0)) .mk)) .mk)) .mk)) .mk)
      |_=>False
    |_=>False
  | .lit (.int _ n),some ⟨.array len (sz+1),_,_⟩=>chk (0<=n) (hold (chk (n.toNat<len) (hold (chk (ZB2 σ x) (hold (K (x.adv (n.toNat*(sz+1)))) .mk)) .mk)) .mk)
  |_,_=>False):=rfl
theorem ZMU {x i:AV}{K:AV->Prop}{k:Box K}:ZDA P t x i (hold K k)=(match x,i with
  | .lit (.string s),.lit (.int _ n)=>chk (P.underlying t=some .string) (hold (chk (0<=n) (hold (chk (n.toNat<s.size) (hold (K (.lit (.int .u8 (byteAt s n.toNat)))) .mk)) .mk)) .mk)
  | .agg cs,.lit (.int _ n)=>match P.underlying t with
    |some (.array len e)=>match Zg P e with
      |some j=>chk (j.sh.isAgg=false) (hold (chk (j.size=1) (hold (chk (len=cs.length) (hold (chk (0<=n) (hold (chk (n.toNat<len) (hold (K (cs.getD n.toNat .junk)) .mk)) .mk)) .mk)) .mk)) .mk)
      |none=>False
    |_=>False
  |_,_=>False):=rfl
theorem ZP9 {x:AV}{K:AV->Prop}{k:Box K}:ZMj P t σ x (hold K k)=(match P.underlying t with
  |some (.slice _)=>match x with
    | .arr es=>K (.lit (.int .i64 es.length))
    | .lit (.slice none 0 0)=>K (.lit (.int .i64 0))
    | .own l k=>K (.lit (.int .i64 k))
    |_=>False
  |some .string=>match x with
    | .lit (.string s)=>K (.lit (.int .i64 s.size))
    |_=>False
  |some (.array n _)=>K (.lit (.int .i64 n))
  |_=>False):=rfl
theorem ZMQ {x:AV}{K:List (List AV)->Prop}{k:Box K}:ZC9 σ x (hold K k)=(match x with
  | .arr es=>K es
  | .lit (.slice none 0 0)=>K []
  | .lit (.slice (some _) 0 _)=>K []
  | .own l k=>match σ[l]? with
    |some (.elems _ es)=>chk (es.length=k) (hold (K es) .mk)
    |_=>False
  |_=>False):=rfl
theorem ZK3 {s x:AV}:ZB9 P B t t2 σ s x (hold K k)=(match Zg P t,P.underlying t2 with
  |some ⟨.slice sz bytes zs,_,_⟩,some (.slice _)=>
    chk (zs.length=sz) (hold (chk (sz≠0) (hold (chk (bytes≠0) (hold (ZC9 σ x (hold (fun new=>chk (ZFH sz new) (hold (chk (ZBL σ new) (hold (
      match s with
      | .lit (.slice none 0 0) => chk (new.length <= bd B) (hold (chk ((2 * new.length + 1024) * bytes <= 281474976710656) (hold (
          K (.own σ.length new.length) (σ++[.elems sz new])) .mk)) .mk)
      | .own l n=>match σ[l]? with
        | some (.elems sz' es) => chk (es.length = n) (hold (chk (sz' = sz) (hold (chk (n + new.length <= bd B) (hold (chk ((2 * (n + new.length) + 1024) * bytes <= 281474976710656) (hold (
            K (.own l (n+new.length)) (σ.set l (.elems sz (es++new)))) .mk)) .mk)) .mk)) .mk)
        |_=>False
      |_=>False) .mk)) .mk)) .mk)) .mk)) .mk)) .mk)
  |_,_=>False):=rfl
theorem ZQA {x y:AV}{K:AV->Prop}{k:Box K}:ZOh P op t x y (hold K k)=(match x,y with
  | .lit (.int k a),.lit (.int k' b)=>chk (k=k') (hold (match op with
    | .add=>K (.lit (.int k (k.wrap (a+b))))
    | .sub=>K (.lit (.int k (k.wrap (a-b))))
    | .mul=>K (.lit (.int k (k.wrap (a*b))))
    | .quo=>chk (b≠0) (hold (K (.lit (.int k (k.wrap (a.tdiv b))))) .mk)
    | .rem=>chk (b≠0) (hold (K (.lit (.int k (a.tmod b)))) .mk)
    | .eql=>K (.lit (.bool (a==b)))
    | .neq=>K (.lit (.bool (a !=b)))
    | .lss=>K (.lit (.bool (a<b)))
    | .leq=>K (.lit (.bool (a<=b)))
    | .gtr=>K (.lit (.bool (a>b)))
    | .geq=>K (.lit (.bool (a≥b)))
    | .xor=>K (.lit (.int k (ZRV k a b)))
    |_=>False) .mk)
  | .lit (.string a),.lit (.string b)=>match op with
    | .add=>chk ((a.size+b.size:Nat)<=9223372036854775807) (hold (K (.lit (.string (a++b)))) .mk)
    | .eql=>K (.lit (.bool (a.toList==b.toList)))
    | .neq=>K (.lit (.bool (!(a.toList==b.toList))))
    |_=>False
  | .lit (.bool a),.lit (.bool b)=>chk (P.underlying t=some .bool) (hold (match op with
    | .eql=>K (.lit (.bool (a==b)))
    | .neq=>K (.lit (.bool (!(a==b))))
    |_=>False) .mk)
  | .agg xs,.agg ys=>match ZA5 xs,ZA5 ys with
    |some p,some q=>chk (ZBq P t=true) (hold (match op with
      | .eql=>K (.lit (.bool (dec (eq2 p q))))
      | .neq=>K (.lit (.bool (!dec (eq2 p q))))
      |_=>False) .mk)
    |_,_=>match ZBO xs,ZBO ys with
      |some p,some q=>chk (ZCB P t=true) (hold (match op with
        | .eql=>K (.lit (.bool (dec (eq3 p q))))
        | .neq=>K (.lit (.bool (!dec (eq3 p q))))
        |_=>False) .mk)
      |_,_=>match ZCK xs,ZCK ys with
        |some p,some q=>chk (ZEX P t=true) (hold (match op with
          | .eql=>K (.lit (.bool (dec (eq4 p q))))
          | .neq=>K (.lit (.bool (!dec (eq4 p q))))
          |_=>False) .mk)
        |_,_=>False
  | .arr es,.lit (.slice none 0 0)=>chk (ZC6 P t=true) (hold (chk (es≠[]) (hold (match op with
    | .eql=>K (.lit (.bool false))
    | .neq=>K (.lit (.bool true))
    |_=>False) .mk)) .mk)
  | .lit (.slice a n c),.lit (.slice none 0 0)=>chk (ZC6 P t=true) (hold (match op with
    | .eql=>K (.lit (.bool a.isNone))
    | .neq=>K (.lit (.bool (!a.isNone)))
    |_=>False) .mk)
  |_,_=>False):=rfl
theorem ZRL {op:UnOp}{x:AV}{K:AV->Prop}{k:Box K}:aUn op x (hold K k)=(match op,x with
  | .not,.lit (.bool b)=>K (.lit (.bool (!b)))
  | .neg,.lit (.int k n)=>K (.lit (.int k (k.wrap (0-n))))
  |_,_=>False):=rfl
theorem ZON {s d:TypeId}{x:AV}{K:AV->Prop}{k:Box K}:ZEN P s d σ x (hold K k)=(match P.underlying s,P.underlying d,x with
  |some (.int _),some (.int k),.lit (.int _ n)=>K (.lit (.int k (k.wrap n)))
  |some (.slice e),some .string,.arr es=>chk (ZBI P (some (.slice e))=true) (hold (match u8s es with
    |some ns=>K (.lit (.string (ZIE ns)))
    |none=>False) .mk)
  |some (.slice e),some .string,.own l n=>chk (ZBI P (some (.slice e))=true) (hold (match σ[l]? with
    |some (.elems _ es)=>chk (es.length=n) (hold (match u8s es with
      |some ns=>K (.lit (.string (ZIE ns)))
      |none=>False) .mk)
    |_=>False) .mk)
  |_,_,_=>False):=rfl
theorem ZK2 {K:List AV->ZE->Prop}{k:Box K}:frz σ [] (hold K k)=(K [] σ):=id rfl
theorem ZJX {x:AV}{r:List AV}{K:List AV->ZE->Prop}{k:Box K}:frz σ (x::r) (hold K k)=(match x with
  | .own l n=>(match σ[l]? with
    |some (.elems _ es)=>chk (es.length=n) (hold (chk (Zc es) (hold (frz (σ.set l .dead) r (hold (fun r' σ'=>K (.arr es::r') σ') .mk)) .mk)) .mk)
    |_=>False)
  | .lit v=>frz σ r (hold (fun r' σ'=>K (.lit v::r') σ') .mk)
  | .arr v=>frz σ r (hold (fun r' σ'=>K (.arr v::r') σ') .mk)
  |y=>frz σ r (hold (fun r' σ'=>K (y::r') σ') .mk)):=by
  simp only[hold]
  cases x with
  |own l n=>simp only[frz];generalize σ[l]? =ob;rcases ob with _|(_|⟨(_|_),cs⟩|⟨(_|_),sz,es⟩)<;>rfl
  |_=>rfl
theorem ZJW {K:List (List AV)->ZE->Prop}{k:Box K}:ZMI σ [] (hold K k)=(K [] σ):=id rfl
theorem ZHi {x:List AV}{r:List (List AV)}{K:List (List AV)->ZE->Prop}{k:Box K}:ZMI σ (x::r) (hold K k)=(frz σ x (hold (fun e' σ'=>ZMI σ' r (hold (fun r' σ''=>K (e'::r') σ'') .mk)) .mk)):=id rfl
theorem ZP7 {x:AV}:ZJV σ x (hold K k)=(match x with
  | .agg cs=>frz σ cs (hold (fun cs' σ'=>K (.agg cs') σ') .mk)
  | .own l n=>(match σ[l]? with
    |some (.elems _ es)=>chk (es.length=n) (hold (chk (Zc es) (hold (K (.arr es) (σ.set l .dead)) .mk)) .mk)
    |_=>False)
  | .lit v=>K (.lit v) σ
  | .arr v=>K (.arr v) σ
  |y=>K y σ):=by cases x<;>rfl
theorem ZJZ {K:List AV->ZE->Prop}{k:Box K}:ZM5 σ [] (hold K k)=(K [] σ):=rfl
theorem ZHk {x:AV}{r:List AV}{K:List AV->ZE->Prop}{k:Box K}:ZM5 σ (x::r) (hold K k)=(ZJV σ x (hold (fun x' σ'=>ZM5 σ' r (hold (fun r' σ''=>K (x'::r') σ'') .mk)) .mk)):=rfl
theorem ZP6 {x:AV}:ZLT σ x (hold K k)=(match x with
  | .tup xs=>ZM5 σ xs (hold (fun xs' σ'=>K (.tup xs') σ') .mk)
  | .lit v=>K (.lit v) σ
  | .arr v=>K (.arr v) σ
  |y=>ZJV σ y (hold K .mk)):=by cases x<;>rfl
theorem ZJb {K:List AV->Prop}{k:Box K}:ZBV P σ fr [] (hold K k)=(K []):=rfl
theorem ZJa {t:Nat}{r:List ResultVar}{K:List AV->Prop}{k:Box K}:ZBV P σ fr (.tmp t::r) (hold K k)=(ZBV P σ fr r (hold (fun xs=>K (lk fr t::xs)) .mk)):=rfl
theorem ZHl {a:Nat}{r:List ResultVar}{K:List AV->Prop}{k:Box K}:ZBV P σ fr (.cell a t::r) (hold K k)=(ZC1 P t σ (lk fr a) (hold (fun x=>ZBV P σ fr r (hold (fun xs=>K (x::xs)) .mk)) .mk)):=rfl
theorem ZHm {place:Nat->Option (Nat×Nat)}{K:List AV->Prop}{k:Box K}:ZBY place σ cs [] (hold K k)=(K cs):=rfl
theorem ZGV {place:Nat -> Option (Nat × Nat)}{x:AV}{rest:List (Nat × AV)}{K:List AV -> Prop}{k:Box K} : ZBY place σ cs ((i, x) :: rest) (hold K k) = (match place i with
    |some (off,size)=>zF σ x (hold (fun new=>chk (new.length=size) (hold (wrE cs off new (hold (fun cs'=>ZBY place σ cs' rest (hold K .mk)) .mk)) .mk)) .mk)
    |none=>False):=rfl
variable {ps:List (Nat×AV)}
theorem ZMV :ZBv P t σ ps (hold K k)=(match Zg P t with
  |some ⟨.struct offs,_,z⟩=>chk ((∀p,p∈offs->p.2≠0)) (hold (chk (z≠[]) (hold (ZBY (fun i=>offs[i]?) σ (z.map .lit) ps (hold (fun cs=>bfrz σ cs (hold (fun cs' σ'=>K (.agg cs') σ') .mk)) .mk)) .mk)) .mk)
  |_=>False):=rfl
theorem ZP8 {K:List AV->ZE->Prop}{k:Box K}:bfrz σ cs (hold K k)=(if σ.any isM=true then K cs σ else frz σ cs (hold K .mk)):=rfl
theorem ZOL {es:List (List AV)}{K:List (List AV)->ZE->Prop}{k:Box K}:bfrzs σ es (hold K k)=(if σ.any isK=true/\σ.any isP=true then K es σ else ZMI σ es (hold K .mk)):=rfl
theorem ZGE {es:List (List AV)}:isK (.elems n es)=decide (n=0):=by cases n<;>rfl
theorem ZGF :isK (.cells cs)=false:=rfl
theorem ZIa :isK .dead=false:=rfl
variable {xs:List AV}{vs:List Value}
theorem ZIZ :isK (.pack xs vs)=false:=rfl
theorem ZGC {es:List (List AV)}:isP (.elems n es)=false:=rfl
theorem ZGD :isP (.cells cs)=false:=rfl
theorem ZIY :isP .dead=false:=rfl
theorem ZIX :isP (.pack xs vs)=true:=rfl
theorem ZKs {es:List (List AV)}:isM (.elems n es)=decide (n=0):=by cases n<;>rfl
theorem ZKt :isM (.cells cs)=false:=rfl
theorem ZL6 :isM .dead=false:=rfl
theorem ZL5 :isM (.pack xs vs)=true:=rfl
theorem ZJM {es:List (List AV)}:ZPq (.elems n es)=false:=rfl
theorem ZJN :ZPq (.cells cs)=false:=rfl
theorem ZKr :ZPq .dead=false:=rfl
theorem ZKq :ZPq (.pack xs vs)=true:=rfl
theorem ZGX {sz:Nat}{K:List (List AV)->Prop}{k:Box K}:ZBu σ sz j [] (hold K k)=(K []):=rfl
theorem ZFM {sz:Nat}{x:AV}{rest:List (Nat×AV)}{K:List (List AV)->Prop}{k:Box K}:ZBu σ sz j ((i,x)::rest) (hold K k)=(chk (i=j) (hold (zF σ x (hold (fun e=>chk (e.length=sz) (hold (ZBu σ sz (j+1) rest (hold (fun es=>K (e.map (nzs σ)::es)) .mk)) .mk)) .mk)) .mk)):=rfl
theorem ZFN :ZAD P B t σ len ps (hold K k)=(match Zg P t with
  |some ⟨.slice sz _ z,_,_⟩=>chk (ps.length=len) (hold (chk (len*sz<=16777216) (hold (chk (len<=bd B) (hold (chk (z.length=sz) (hold (chk (sz≠0) (hold (ZBu σ sz 0 ps (hold (fun es=>bfrzs σ es (hold (fun es' σ'=>K (.own σ'.length len) (σ'++[.elems sz es'])) .mk)) .mk)) .mk)) .mk)) .mk)) .mk)) .mk)
  |_=>False):=rfl
theorem ZGT {l c:AV}:ZAS P B t σ l c (hold K k)=(match Zg P t,l,c with
  |some ⟨.slice sz bytes z,_,_⟩,.lit (.int _ n),.lit (.int _ n')=>chk (n=n') (hold (chk (0<=n) (hold (chk (n<=9223372036854775807) (hold (chk (bytes*n<=281474976710656) (hold (chk (n.toNat<=bd B) (hold (chk (z.length=sz) (hold (chk (sz≠0) (hold (K (.own σ.length n.toNat) (σ++[.elems sz (List.replicate n.toNat ((z.map .lit).map (nzs σ)))])) .mk)) .mk)) .mk)) .mk)) .mk)) .mk)) .mk)
  |_,_,_=>False):=rfl
theorem ZMP {x:Option AV}{d:Nat}{K:Nat->Prop}{k:Box K}:ZAl x d (hold K k)=(match x with
  |none=>K d
  |some (.lit (.int _ n))=>chk (0<=n) (hold (K n.toNat) .mk)
  |_=>False):=rfl
theorem ZMT {x:AV}{lo hi mx:Option AV}:ZBt P t σ x lo hi mx (hold K k)=(match x,mx with
  | .lit (.string s),none=>chk (P.underlying t=some .string) (hold (
    ZAl lo 0 (hold (fun l=>ZAl hi s.size (hold (fun h=>chk (l<=h) (hold (chk (h<=s.size) (hold (K (.lit (.string (s.extract l h))) σ) .mk)) .mk)) .mk)) .mk)) .mk)
  | .arr es,none=>match Zg P t with
    |some ⟨.slice sz _ _,_,_⟩=>chk (ZFH sz es) (hold (
      ZAl lo 0 (hold (fun l=>ZAl hi es.length (hold (fun h=>chk (l<=h) (hold (chk (h<=es.length) (hold (K (.arr ((es.drop l).take (h-l))) σ) .mk)) .mk)) .mk)) .mk)) .mk)
    |_=>False
  | .own l n,none=>match lo,Zg P t with
    |none,some ⟨.slice _ _ _,_,_⟩=>ZAl hi n (hold (fun h=>chk (h<=n) (hold (K (.pre l n h) σ) .mk)) .mk)
    |_,_=>False
  |_,_=>False):=rfl
theorem ZOK {x:AV}:ZB2 σ x=(match x with
  | .rptr _ _=>True
  | .ptr l _=>match σ[l]? with
    |some (.cells _)=>True
    |_=>False
  | .eptr l k _ _=>match σ[l]? with
    |some (.elems _ es)=>es.length=k/\es≠[]
    |_=>False
  |_=>False):=rfl
end
attribute [simp ↓] ZFZ ZEM ZMa ZLg ZQq ZO4 ZE3 ZIz ZG7
  ZPs ZL7 ZPv ZRB ZPw ZN0 ZPt ZPu ZRC ZLe ZQl ZO0 ZMc ZRR ZQN ZQt ZLp ZKx ZJQ ZHa ZHZ ZPW ZO8 ZLw ZLi ZPV ZO7 ZNl ZNQ ZQv ZQr ZNj ZNO ZF4 ZFt ZPX ZO9 ZNg ZNL ZJG ZI1 ZNk ZNP ZPU ZO6 ZKh ZKF ZJH ZI2 ZHL ZG9 ZNh ZNM ZHN ZHB ZHM ZHA ZNi ZNN ZKg ZKE ZKi ZKG ZPY ZPA ZNz ZNy ZJP ZJO ZN1 ZL8 ZJS ZJR ZGH ZQD ZMW ZQC ZOX ZQR ZOi ZLQ ZMl ZRT ZQQ ZQS ZRP ZOV ZGY ZQE ZOS ZJc ZOW ZQB ZK6 ZJd ZHo ZOT ZHq ZHp ZOU ZK5 ZRO ZMX ZRM ZRN ZMR ZRJ ZRI ZRK ZOM ZRH ZRG ZMS ZGW ZGU ZMU ZP9 ZMQ ZK3 ZQA ZRL ZON ZK2 ZJX ZJW ZHi ZP7 ZJZ ZHk ZP6 ZJb ZJa ZHl ZHm ZGV ZMV ZP8 ZOL ZGE ZGF ZIa ZIZ ZGC ZGD ZIY ZIX ZGX ZFM ZFN ZGT ZMP ZMT ZOK
attribute [simp] ZIo ZGv ZQU u8s ZBI
attribute [simp] ZGE ZGF ZIa ZIZ ZGC ZGD ZIY ZIX ZKs ZKt ZL6 ZL5 ZJM ZJN ZKr ZKq nzs
attribute [simp] nz AV.le AV.le.les ZMK ZDI Blk.le pack ZFe Blk.closed Zf ZML AV.bnd AV.bnd.bnds ev ZBN lk AV.adv Sh.isAgg Zs
variable {n:Nat}{v:Value}
theorem ZQK :zD n (.lit v)↔True:=by simp[zD]
theorem ZOc :zD n .junk↔True:=by simp[zD]
variable {es:List (List AV)}
theorem ZQL :zD n (.arr es)↔True:=by simp[zD]
variable {e:List AV}{o:Nat}
theorem ZOb :zD n (.rptr e o)↔True:=by simp[zD]
variable {l i k:Nat}
theorem ZQI :zD n (.pre l i k)↔l<n:=by simp[zD]
theorem ZQJ :zD n (.own l k)↔l<n:=by simp[zD]
theorem ZQH :zD n (.ptr l k)↔l<n:=by simp[zD]
theorem ZOd :zD n (.eptr l k i o)↔l<n:=by simp[zD]
variable {cs:List AV}
theorem ZQM :zD n (.agg cs)↔zD.closeds n cs:=by simp[zD]
theorem ZQG :zD n (.tup cs)↔zD.closeds n cs:=by simp[zD]
variable {xs ys:List AV}
theorem ZRQ {f:Fn}:zD n (.fn f xs ys)↔zD.closeds n xs/\zD.closeds n ys:=by simp[zD]
theorem ZOZ :zD.closeds n []↔True:=by simp[zD.closeds]
variable {r:List AV}
theorem ZMZ {x:AV}:zD.closeds n (x::r)↔x.closed n/\zD.closeds n r:=by simp[zD.closeds]
theorem ZPG :zE (.lit v)↔True:=by simp[zE]
theorem ZNU :zE .junk↔True:=by simp[zE]
theorem ZPH :zE (.arr es)↔True:=by simp[zE]
theorem ZNT :zE (.rptr e o)↔True:=by simp[zE]
theorem ZPE :zE (.pre l i k)↔False:=by simp[zE]
theorem ZPF :zE (.own l k)↔False:=by simp[zE]
theorem ZPD :zE (.ptr l k)↔False:=by simp[zE]
theorem ZPI :zE (.agg cs)↔zE.pures cs:=by simp[zE]
theorem ZPC :zE (.tup cs)↔zE.pures cs:=by simp[zE]
theorem ZQs {f:Fn}:zE (.fn f xs ys)↔zE.pures xs/\zE.pures ys:=by simp[zE]
theorem ZNS :zE.pures []↔True:=by simp[zE.pures]
theorem ZLj {x:AV}:zE.pures (x::r)↔x.pure/\zE.pures r:=by simp[zE.pures]
theorem ZLu {b:Bool}:ZBR (.bool b)↔True:=by simp[ZBR]
theorem ZNb {k:IntKind}{b:Int}:ZBR (.int k b)↔True:=by simp[ZBR]
theorem ZJC {b:ByteArray}:ZBR (.string b)↔True:=by simp[ZBR]
variable {a:Option Addr}
theorem ZKc {c:Nat}:ZBR (.slice a l c)↔True:=by simp[ZBR]
theorem ZHJ :ZBR (.pointer a)↔True:=by simp[ZBR]
theorem ZNa {a:Option Nat}:ZBR (.map a)↔True:=by simp[ZBR]
theorem ZHK :ZBR .nilFunc↔True:=by simp[ZBR]
variable {σ:ZE}
theorem ZPS :ok1 σ (.lit v)↔ZBR v:=by simp[ok1]
theorem ZPT :ok1 σ (.arr es)↔True:=by simp[ok1]
theorem ZNd :ok1 σ (.rptr e o)↔True:=by simp[ok1]
theorem ZQu {f:Fn}:ok1 σ (.fn f xs ys)↔True:=by simp[ok1]
theorem ZPR :ok1 σ (.own l n)=(match σ[l]? with|some (.elems _ es)=>es.length=n|_=>False):=rfl
theorem ZPQ :ok1 σ (.ptr l n)=(match σ[l]? with|some (.cells _)=>True|_=>False):=rfl
theorem ZNe :ok1 σ (.eptr l n i o)=(match σ[l]? with|some (.elems _ es)=>es.length=n/\es≠[]|_=>False):=rfl
theorem ZNc :Zl σ []↔True:=by simp[Zl]
theorem ZLv {x:AV}:Zl σ (x::r)↔ok1 σ x/\Zl σ r:=by simp[Zl]
attribute [simp] ZQI ZPE ZQK ZOc ZQL ZOb ZQJ ZQH ZOd ZQM ZQG ZRQ ZOZ ZMZ ZPG ZNU ZPH ZNT ZPF ZPD ZPI ZPC ZQs ZNS ZLj ZLu ZNb ZJC ZKc ZHJ ZNa ZHK ZPS ZPT ZNd ZQu ZPR ZPQ ZNe ZNc ZLv
end Go.Vl
