/- Part. -/
import Derived.Test.YtmjpphcloedceaaVlDeep
set_option linter.all false
open List renaming take->zA,toArray->zB
open Array renaming toList->zC
namespace Go.Vl
open Go Go.RowKit
section
variable {P : Program} {B nb N : Nat} {fs : List FuncId}
structure PlanX (xc:Nat)(fs:List FuncId)(P:Program)(B N:Nat)(ops:Array Oper)(fr0:Frm)(infos:List Info)(Sg:Nat->ZB)(S:Nat):Prop where
 len:infos.length=ops.size
 op:∀(i:Nat) (e:Info),infos[i]? =some e->ops[i]? =some e.o
 dst:∀(i:Nat) (e:Info) d,infos[i]? =some e->e.o.dst=some d->d<N
 fr:∀(i:Nat) (e:Info),infos[i]? =some e->FrX (fun j=>j<i) fr0 infos e.fr
 guard:∀(i:Nat) (e:Info),infos[i]? =some e->match e.o.guard with
  |none=>e.want=true
  |some (j,want)=>∃d v,(ops[j]?).bind (·.dst)=some d/\lk e.fr d=.lit v/\e.want=(yb v==some want)
 no:∀(i:Nat) (e:Info),infos[i]? =some e->e.want=false->e.V=.lit undef
 pur:∀(i:Nat) (e:Info),infos[i]? =some e->e.want=true->e.eff=false->∀s,s<=S->
  (∀(j:Nat) (f:Info),infos[j]? =some f->f.eff=true->Zz ops i j=true->f.rank<s)->
  (∀(j:Nat) (f:Info),infos[j]? =some f->f.eff=true->Zz ops j i=true->s<=f.rank)->
  OpEx P B e.o (ev e.fr) (Sg s) e.V (Sg s)
 eff:∀(i:Nat) (e:Info),infos[i]? =some e->e.eff=true->e.rank<S/\ZO fs e.o.op=true/\(i≠xc->if e.want=true then OpEx P B e.o (ev e.fr) (Sg e.rank) e.V (Sg (e.rank+1))else Sg (e.rank+1)=Sg e.rank)
 ranks:∀r,r<S->∃(i:Nat) (e:Info),infos[i]? =some e/\e.eff=true/\e.rank=r
 mono:∀(i j:Nat) (e f:Info),infos[i]? =some e->infos[j]? =some f->e.eff=true->f.eff=true->i<j->e.rank<f.rank
def kkP (fs:List FuncId)(XS:List Nat)(TS:List (Nat×Nat))(KK:List Nat->List (Nat×Nat)->Frm->List ZB->List AV->Lds->Prop)(acc:List Info)(ss:List ZB)(fr:Frm):Prop:=
 ∃xs ts ps ls,ss≠[]/\xs=XS.drop acc.length/\ts=TS.drop acc.length/\FP fs acc.reverse XS TS ps ls/\KK xs ts fr ss ps ls
def aLg (fs:List FuncId)(P:Program)(B N:Nat)(ops:Array Oper):List Oper->List Nat->List (Nat×Nat)->Frm->List ZB->List AV->Lds->(List Nat->List (Nat×Nat)->Frm->List ZB->List AV->Lds->Prop)->Prop
 | [],xs,ts,fr,ss,ps,ls,KK=>KK xs ts fr ss ps ls
 |o::rest,xs,ts,fr,ss,ps,ls,KK=>ZAU ops fr o.guard
   (chk (ZGF fs (xs.headD 0) o.op fr) (hold (ZMB fs P B o.op fr (ss.headD []) (hold (fun r σ'=>ZDc N o.dst (hold (aLg fs P B N ops rest xs.tail ts.tail (ZAB o.dst r fr) (if ZO fs o.op=true then σ'::ss else ss) (ZBx (xs.headD 0) o.op fr ps) (ZGh (xs.headD 0) o.op fr r (ts.headD (0,0)) ls) KK) .mk)) .mk)) .mk))
   (ZDc N o.dst (hold (aLg fs P B N ops rest xs.tail ts.tail (ZAB o.dst (.lit undef) fr) (if ZO fs o.op=true then ss.headD []::ss else ss) ps ls KK) .mk))
def ZJD (P:Program)(B:Nat)(f:FuncId)(args:List AV)(σ:ZB)(K:AV->ZB->Prop):Prop:=
 ∃(X:Type) (_:X) (V:X->AV) (T:X->ZB),(∀K':AV->ZB->Prop,(∀x,K' (V x) (T x))->ACall P B f args σ K')/\∀x,K (V x) (T x)
def ZNy (P:Program)(B:Nat)(op:Op)(ρ:Operand->AV)(σ:ZB)(K:AV->ZB->Prop):Prop:=
 match op with
 | .call {callee:=.value f,args,.. }=>match ρ f with
  | .fn (.func i) first cap=>ZJD P B i (first++args.toList.map ρ++cap) σ K
  |_=>False
 |_=>False
def ZO7 (ops:Array Oper)(xc:Nat):Bool:=(List.range ops.size).all fun i=>decide (i<=xc)||Zz ops i xc
variable {ops:Array Oper}{bo:Box ops}{n:Nat}{l:List Oper}{xs:List Nat}{ts:List (Nat×Nat)}{fr:Frm}{ss:List ZB}{ps:List AV}{ls:Lds}{KK:List Nat->List (Nat×Nat)->Frm->List ZB->List AV->Lds->Prop}
theorem ZLi {b:Box (zA n (zC (zB l)))}:
  aLg fs P B N (hold ops bo) (hold (zA n (zC (zB l))) b) xs ts fr ss ps ls KK=aLg fs P B N (hold ops bo) (hold (zA n l) .mk) xs ts fr ss ps ls KK:=id rfl
theorem ZNW {b:Box (zA 0 l)}{k:Box KK}:
  aLg fs P B N ops (hold (zA 0 l) b) xs ts fr ss ps ls (hold KK k)=KK xs ts fr ss ps ls:=by simp[hold,aLg]
theorem ZLj {o:Oper}{rest:List Oper}{br:Box (zA (n+1) (o::rest))}{k:Box KK}:aLg fs P B N (hold ops bo) (hold (zA (n+1) (o::rest)) br) xs ts fr ss ps ls (hold KK k)=
  ZAU (hold ops .mk) fr o.guard
   (hold (chk (ZGF fs (xs.headD 0) o.op fr) (hold (ZMB fs P B o.op fr (ss.headD []) (hold (fun r σ'=>ZDc N o.dst (hold (aLg fs P B N (hold ops .mk) (hold (zA n rest) .mk) xs.tail ts.tail (ZAB o.dst r fr) (if ZO fs o.op=true then σ'::ss else ss) (ZBx (xs.headD 0) o.op fr ps) (ZGh (xs.headD 0) o.op fr r (ts.headD (0,0)) ls) (hold KK .mk)) .mk)) .mk)) .mk)) .mk)
   (hold (ZDc N o.dst (hold (aLg fs P B N (hold ops .mk) (hold (zA n rest) .mk) xs.tail ts.tail (ZAB o.dst (.lit undef) fr) (if ZO fs o.op=true then ss.headD []::ss else ss) ps ls (hold KK .mk)) .mk)) .mk):=id rfl
variable {K:Frm->ZB->Prop}
theorem ZJu {b:Box (List.drop n (zC (zB l)))}:
  aL fs P B N (hold ops bo) (hold (List.drop n (zC (zB l))) b) xs ts fr ss ps ls K=aL fs P B N (hold ops bo) (hold (List.drop n l) .mk) xs ts fr ss ps ls K:=id rfl
theorem ZJt {o:Oper}{b:Box (List.drop (n+1) (o::l))}:
  aL fs P B N (hold ops bo) (hold (List.drop (n+1) (o::l)) b) xs ts fr ss ps ls K=aL fs P B N (hold ops bo) (hold (List.drop n l) .mk) xs ts fr ss ps ls K:=id rfl
theorem ZJv {b:Box (List.drop 0 l)}:
  aL fs P B N (hold ops bo) (hold (List.drop 0 l) b) xs ts fr ss ps ls K=aL fs P B N (hold ops bo) (hold l .mk) xs ts fr ss ps ls K:=id rfl
theorem ZOh {f:Operand}{l:List Operand}{tys:List TypeId}{ρ:Operand->AV}{σ:ZB}{K:AV->ZB->Prop}{k:Box K}:ZNy P B (.call {callee:=.value f,args:=zB l,argTypes:=zB tys}) ρ σ (hold K k)=(match ρ f with
  | .fn (.func i) first cap=>ZJD P B i (first++l.map ρ++cap) σ (hold K .mk)
  |_=>False):=id rfl
end
attribute [simp] ZLi ZNW ZLj ZJu ZJt ZJv ZOh
end Go.Vl
