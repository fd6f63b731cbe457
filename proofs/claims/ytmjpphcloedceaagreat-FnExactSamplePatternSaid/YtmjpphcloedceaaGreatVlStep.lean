import Derived.Test.YtmjpphcloedceaaGreatVlDraw2
set_option linter.all false
open Bool renaming false_ne_true->zA
namespace Go.Vl
open Go Go.RowKit
attribute [local simp] lk ZAL ev ZBR AV.adv Sh.isAgg
theorem ADraw.pure {P:Program}{B nb N:Nat}{ops:Array Oper}{fr:Frm}{σ:ZE}{K:ASt->Prop}(hm:P.follows .mixedOrders=true)(hd:ZAZ [] ops=true)(he:effCnt [] ops.toList=0)
  (h:aD [] P B N ops ops.toList fr [] [σ] fun _ ss fr'=>K ⟨fr',ss.headD []⟩):ADraw P B nb N ops ⟨fr,σ⟩ K:=by
 refine ADraw.base (fs:=[]) hm hd (C:=fun _ _=>True) ?_ ?_
 ·intro acc ss frN hl hlen hSlen _ i e hi hw hef hc hx hr s hs hne
  rw[he]at hs hSlen
  omega
 ·simpa using h
theorem PureCall.pcall {P:Program}{B:Nat}{f:FuncId}{args:List AV}{r:AV}(h:PureCall P B f args r)(hp:ZEf args){K:AV->Prop}(hK:K r):ZEX P B f args K:=⟨r,h,hp,hK⟩
end Go.Vl
namespace Go.Vl
open Go Go.RowKit
def ZAb (es:List (List AV)):Prop:=∀e,e∈es->AV.pure.pures e
def ZC5 (σ:ZE)(es:List (List AV)):Prop:=∀e,e∈es->Zf σ e
def ZH6 (n:Nat)(es:List (List AV)):Prop:=∀e,e∈es->e.length=n
def chk (p q:Prop):Prop:=p/\q
def abr (c y n:Prop):Prop:=(c->y)/\(¬c->n)
variable {c y n:Prop}
theorem abr.intro (h:c->y)(h':¬c->n):abr c y n:=⟨h,h'⟩
inductive Box {α:Sort _}(a:α):Type
 |mk
def hold {α:Sort _}(a:α)(_:Box a):α:=a
theorem chk.go {p q:Prop}{b:Box q}(h:p)(h':q):chk p (hold q b):=⟨h,h'⟩
theorem ZLB {q:Prop}{b:Box q}:chk True (hold q b)=q:=by simp[chk,hold]
theorem ZG1 [Decidable c]:abr c y n=if c then y else n:=by
 by_cases h:c<;>simp[abr,h]
theorem ZEz {b:Box y}:abr True (hold y b) n=y:=by simp[abr,hold]
theorem ZD4 {b:Box n}:abr False y (hold n b)=n:=by simp[abr,hold]
theorem abr.split {b:Box y}{b':Box n}(h:c->y)(h':¬c->n):abr c (hold y b) (hold n b'):=⟨h,h'⟩
section
variable {P : Program} {B nb N : Nat}
def ZOw (P:Program)(B nb N:Nat)(b:Code)(Q:Exit->ASt->Prop)(e:Exit)(st:ASt):Prop:=
 match e with
 | .normal=>awp P B nb N b st Q
 |e=>Q e st
def ZHe (id:Nat)(Q:Exit->ASt->Prop)(e:Exit)(st:ASt):Prop:=
 match e with
 | .exit id'=>if id'=id then Q .normal st else Q (.exit id') st
 |e=>Q e st
def aP (P:Program)(B N:Nat)(ops:Array Oper):List Oper->Frm->ZE->(Frm->Prop)->Prop
 | [],fr,_,K=>K fr
 |o::rest,fr,σ,K=>ZAX ops fr o.guard
   (match o.op with
    | .call {callee:=.value f,args,.. }=>PCall P B (ev fr f) (args.toList.map (ev fr)) fun r=>dOk N o.dst/\aP P B N ops rest (Zl o.dst r fr) σ K
    |op=>aef P B op (ev fr) σ fun r σ'=>σ'=σ/\dOk N o.dst/\aP P B N ops rest (Zl o.dst r fr) σ K)
   (dOk N o.dst/\aP P B N ops rest (Zl o.dst (.lit undef) fr) σ K)
variable {args:List AV}
theorem PCall.mono {f:AV}{K K':AV->Prop}(h:PCall P B f args K)(hk:∀r,K r->K' r):PCall P B f args K':=by
 unfold PCall at h ⊢
 split at h
 ·obtain⟨r,h1,h2,h3⟩:=h;exact⟨r,h1,h2,hk r h3⟩
 ·exact h.elim
theorem ZHj {ops:Array Oper}{K:ASt->Prop}{σ:ZE}:∀(rest:List Oper) (_:∀o,o∈rest->ZO [] o.op=false) (fr:Frm) (acc:List Info),aP P B N ops rest fr σ (fun fr'=>K ⟨fr',σ⟩)->
  aD [] P B N ops rest fr acc [σ] fun _ ss fr'=>K ⟨fr',ss.headD []⟩
 | [],_,fr,acc,h=>h
 |o::rest,he,fr,acc,h=>by
  have heo:=he o (by simp)
  have ih:=fun fr' acc' h'=>ZHj (ops:=ops) (K:=K) (σ:=σ) rest (fun o ho=>he o (by simp[ho])) fr' acc' h'
  unfold aP at h
  unfold aD
  have yes:(match o.op with
    | .call {callee:=.value f,args,.. }=>PCall P B (ev fr f) (args.toList.map (ev fr)) fun r=>dOk N o.dst/\aP P B N ops rest (Zl o.dst r fr) σ (fun fr'=>K ⟨fr',σ⟩)
    |op=>aef P B op (ev fr) σ fun r σ'=>σ'=σ/\dOk N o.dst/\aP P B N ops rest (Zl o.dst r fr) σ (fun fr'=>K ⟨fr',σ⟩))->
    (match o.op with
    | .call {callee:=.value f,args,.. }=>if ZO [] o.op=true then ZBE P B (ev fr f) (args.toList.map (ev fr)) ([σ].headD []) fun r σ'=>dOk N o.dst/\aD [] P B N ops rest (Zl o.dst r fr) (⟨o,true,true,fr,r,[σ].length-1⟩::acc) (σ'::[σ]) fun _ ss fr'=>K ⟨fr',ss.headD []⟩
      else PCall P B (ev fr f) (args.toList.map (ev fr)) fun r=>dOk N o.dst/\aD [] P B N ops rest (Zl o.dst r fr) (⟨o,true,false,fr,r,0⟩::acc) [σ] fun _ ss fr'=>K ⟨fr',ss.headD []⟩
    |op=>aef P B op (ev fr) ([σ].headD []) fun r σ'=>dOk N o.dst/\
      if ZO [] o.op=true then aD [] P B N ops rest (Zl o.dst r fr) (⟨o,true,true,fr,r,[σ].length-1⟩::acc) (σ'::[σ]) fun _ ss fr'=>K ⟨fr',ss.headD []⟩
      else σ'=[σ].headD []/\aD [] P B N ops rest (Zl o.dst r fr) (⟨o,true,false,fr,r,[σ].length-1⟩::acc) [σ] fun _ ss fr'=>K ⟨fr',ss.headD []⟩):=by
   intro h
   have gen:∀op,ZO [] op=false->(aef P B op (ev fr) σ fun r σ'=>σ'=σ/\dOk N o.dst/\aP P B N ops rest (Zl o.dst r fr) σ (fun fr'=>K ⟨fr',σ⟩))->
     aef P B op (ev fr) ([σ].headD []) fun r σ'=>dOk N o.dst/\
      if ZO [] op=true then aD [] P B N ops rest (Zl o.dst r fr) (⟨o,true,true,fr,r,[σ].length-1⟩::acc) (σ'::[σ]) fun _ ss fr'=>K ⟨fr',ss.headD []⟩
      else σ'=[σ].headD []/\aD [] P B N ops rest (Zl o.dst r fr) (⟨o,true,false,fr,r,[σ].length-1⟩::acc) [σ] fun _ ss fr'=>K ⟨fr',ss.headD []⟩:=by
    intro op hop h
    obtain⟨r,s,⟨h1,h2,h3⟩,h4⟩:=ZDQ P B op (ev fr) σ _ h
    refine h4 _ ⟨h2,?_⟩
    rw[iN (by rw[hop];exact zA)]
    exact⟨h1,ih _ _ h3⟩
   generalize o.op=op at h heo ⊢
   cases op with
   |call c=>
    obtain⟨cal,args,ts⟩:=c
    cases cal with
    |value f=>
     show ite _ _ _
     rw[iN (by rw[heo];exact zA)]
     exact h.mono fun r hr=>⟨hr.1,ih _ _ hr.2⟩
    |_=>exact gen _ heo h
   |_=>exact gen _ heo h
  unfold ZAX at h ⊢
  split at h
  ·exact yes h
  ·split at h
   ·split at h
    ·split at h
     ·next hb=>simp only[hb,if_true];exact yes h
     ·next hb=>simp only[hb,if_false];refine⟨h.1,?_⟩;rw[iN (by rw[heo];exact zA)];exact ih _ _ h.2
    ·exact h.elim
   ·exact h.elim
variable {σ:ZE}
theorem ADraw.simple {ops:Array Oper}{b:Box ops}{fr:Frm}{K:ASt->Prop}{b':Box K}(hm:P.follows .mixedOrders=true)(hd:ZAZ [] ops=true)(he:effCnt [] ops.toList=0)(h:aP P B N (hold ops .mk) ops.toList fr σ (hold (fun fr'=>K ⟨fr',σ⟩) .mk)):ADraw P B nb N (hold ops b) ⟨fr,σ⟩ (hold K b'):=by
 refine ADraw.pure hm hd he (ZHj _ ?_ _ _ h)
 intro o ho
 cases hx:ZO [] o.op with
 |false=>rfl
 |true=>
  exfalso
  have:o∈ops.toList.filter fun o=>ZO [] o.op:=List.mem_filter.2 ⟨ho,hx⟩
  unfold effCnt at he
  rw[List.length_eq_zero_iff.1 he]at this
  cases this
def ZCY (P:Program)(B:Nat)(o:Op)(fr:Frm)(σ:ZE)(K:AV->Prop):Prop:=
 match o with
 | .call {callee:=.value f,args,.. }=>PCall P B (ev fr f) (args.toList.map (ev fr)) K
 |op=>aef P B op (ev fr) σ fun r σ'=>σ'=σ/\K r
def ZBs (N:Nat)(d:Option Nat)(K:Prop):Prop:=dOk N d/\K
def ZFA (B nb N:Nat)(I:Nat->ASt->Prop)(n:Nat)(Q:Exit->ASt->Prop)(e:Exit)(st':ASt):Prop:=
 match e with
 | .normal=>∃n' st2,n'<n/\Gh B nb N st' st2/\I n' st2
 |e=>Q e st'
def RoundEnd (B nb N:Nat)(I:Nat->ASt->Prop)(n:Nat)(st':ASt):Prop:=∃n' st2,n'<n/\Gh B nb N st' st2/\I n' st2
variable {I:Nat->ASt->Prop}{n:Nat}{Q:Exit->ASt->Prop}{st':ASt}
theorem ZEc :ZFA B nb N I n Q .normal st'=RoundEnd B nb N (hold I .mk) (hold n .mk) st':=rfl
theorem RoundEnd.intro {bI:Box I}{bn:Box n}(st2:ASt)(n':Nat)(h:n'<n)(hg:Gh B nb N st' st2)(hI:I n' st2):RoundEnd B nb N (hold I bI) (hold n bn) st':=⟨n',st2,h,hg,hI⟩
theorem ZHs :ZFA B nb N I n Q .ret st'=Q .ret st':=rfl
theorem ZGJ {i:Nat}:ZFA B nb N I n Q (.exit i) st'=Q (.exit i) st':=rfl
variable {c:Code}{bc:Box c}{st:ASt}
theorem ALoop.go {b:Box Q}(I:Nat->ASt->Prop)(n:Nat)(st0:ASt)(hg:Gh B nb N st st0)(hI:I n st0)(hround:∀n st1,I n st1->awp P B nb N c st1 (hold (ZFA B nb N I n Q) .mk)):ALoop P B nb N (hold c bc) st (hold Q b):=by
 refine ALoop.intro I n st0 hg hI fun n st1 h=> ?_
 have:=hround n st1 h
 have e:(ZFA B nb N I n Q)=fun e st'=>match e with
   | .normal=>∃n' st2,n'<n/\Gh B nb N st' st2/\I n' st2
   |e=>Q e st':=by
  funext e st';cases e<;>rfl
 rw[e]at this
 exact this
variable {f:FuncId}{r:AV}
theorem PureCall.enter {fn:Func}(hf:P.funcs[f]? =some fn)(hn:(fn.name== "runtime.NumGoroutine")=false)(hb:fn.body=some c)(hN:fn.ntmps=N)(hargs:args.length<=N)(hr:r.pure)(h:AV.bnd.bnds B args->awp P B 0 N c ⟨ZBR 0 args,[]⟩ (hold (ZAR P fn fun r' _=>r'=r) .mk)):PureCall P B f args r:=
 PureCall.intro hf hn hb hN hargs hr h
theorem PureCall.enterLe {fn:Func}(hf:P.funcs[f]? =some fn)(hn:(fn.name== "runtime.NumGoroutine")=false)(hb:fn.body=some c)(hN:fn.ntmps=N)(hargs:args.length<=N)(hr:r.pure)(h:awp P B 0 N c ⟨ZBR 0 args,[]⟩ (hold (ZAR P fn fun r' _=>r'.le r) .mk)):PureCall P B f args r:=
 PureCall.introLe hf hn hb hN hargs hr h
variable {bQ:Box Q}
theorem ALoopU.enter (h:awp P B nb N c st (hold (ZE8 P B nb N (hold c .mk) (hold Q .mk)) .mk)):ALoopU P B nb N (hold c bc) st (hold Q bQ):=
 ALoopU.unroll h
theorem ALoop.goU (st0:ASt)(hg:Gh B nb N st st0)(h:ALoopU P B nb N (hold c .mk) st0 (hold Q .mk)):ALoop P B nb N (hold c bc) st (hold Q bQ):=
 ALoopU.loop hg h
theorem Again.go (st2:ASt)(hg:Gh B nb N st' st2)(h:ALoopU P B nb N (hold c .mk) st2 (hold Q .mk)):Again P B nb N (hold c bc) (hold Q bQ) st':=⟨st2,hg,h⟩
theorem Leave.go {e:Exit}(st2:ASt)(hg:Gh B nb N st' st2)(h:Q e st2):Leave B nb N (hold Q bQ) e st':=⟨st2,hg,h⟩
variable {args':List AV}
theorem PureCall.weak (h:PureCall P B f args' r)(hl:AV.le.les args args'):PureCall P B f args r:=
 ⟨h.1,h.2.1,fun av w vs hav hv=>h.2.2 av w vs hav ⟨by rw[hv.1,ZBH hl],fun i x hi=>by
  obtain⟨z,hz,hle⟩:=ZBI hl hi
  exact(hv.2 i z hz).le hle⟩⟩
variable {K:AV->ZE->Prop}{b:Box K}
theorem PureCall.goW (h:PureCall P B f args' r)(hl:AV.le.les args args')(hp:ZEf args)(hK:K r σ):ACall P B f args σ (hold K b):=(h.weak hl).call hp hK
theorem PureCall.pgoW (h:PureCall P B f args' r)(hl:AV.le.les args args')(hp:ZEf args){K:AV->Prop}{b:Box K}(hK:K r):ZEX P B f args (hold K b):=(h.weak hl).pcall hp hK
theorem PureCall.go (h:PureCall P B f args r)(hp:ZEf args)(hK:K r σ):ACall P B f args σ (hold K b):=h.call hp hK
end
end Go.Vl
