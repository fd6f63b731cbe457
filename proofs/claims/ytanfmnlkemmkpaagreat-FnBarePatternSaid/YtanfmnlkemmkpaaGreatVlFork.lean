import Derived.Test.YtanfmnlkemmkpaaGreatVlDrawN
set_option linter.all false
namespace Go.Vl
open Go Go.RowKit
section
variable {P : Program} {B nb N : Nat} {fs : List FuncId} {ops : Array Oper}
end
end Go.Vl
namespace Go.Vl
open Go Go.RowKit
section
variable {P : Program} {B nb N : Nat} {fs : List FuncId}
structure NB (fs:List FuncId)(P:Program)(B nb N:Nat)(ops:Array Oper)(xc:Nat)(fr0:Frm)(σ:ZA)(K:ASt->Prop)where
 X:Type
 x0:X
 rc:Nat
 S:Nat
 infos:X->List Info
 Sg:X->Nat->ZA
 frN:X->Frm
 fr1:Frm
 hd:ZAx fs ops=true
 hp:∀x,PlanX xc fs P B N ops fr0 (infos x) (Sg x) S
 hN:∀x,FrX (fun _=>True) fr0 (infos x) (frN x)
 hK:∀x,K ⟨frN x,Sg x S⟩
 hxw:∀x (e:Info),(infos x)[xc]? =some e->e.want=true
 hxe:∀x (e:Info),(infos x)[xc]? =some e->e.eff=true
 hxr:∀x (e:Info),(infos x)[xc]? =some e->e.rank=rc
 hxs:xc<ops.size
 hag:∀x y (i:Nat) (e f:Info),(infos x)[i]? =some e->(infos y)[i]? =some f->i≠xc->Zm ops i xc=false->e.V=f.V/\e.eff=f.eff/\e.rank=f.rank
 hSg:∀x y s,s<=rc->Sg x s=Sg y s
 hcall:∀(m0:Map) (w0:World) (Q:Exit->Act->World->Prop) x (e:Info),(infos x)[xc]? =some e->∀(fr:Frm) (m:Map) (a:Act) (w:World) (R:Act->World->Prop),ASim B nb N m0 w0 ⟨fr,Sg x rc⟩ m a w->(∀z,z∈e.o.op.operands->ev e.fr z=ev fr z)->
   (∀y (f:Info),(infos y)[xc]? =some f->∀(fr':Frm) (m':Map) (a':Act) (w':World),(∀t,lk fr' t=if e.o.dst=some t then f.V else lk fr t)->ASim B nb N m0 w0 ⟨fr',Sg y (rc+1)⟩ m' a' w'->R a' w')->e.o.wp P a w R Q
 h0:∀x,Sg x 0=σ
 hV:∀x (k:Nat) (e:Info),k<xc->(infos x)[k]? =some e->∀d,e.o.dst=some d->e.V=lk fr1 d
def swB (sw:List Nat)(a n:Nat):Bool:=(List.range n).all fun k=>sw.idxOf k==if k=a then a+1 else if k=a+1 then a else k
def ZHe :List Nat->Frm->Frm->Prop
 | [],_,_=>True
 |d::r,f,g=>lk f d=lk g d/\ZHe r f g
theorem ZIi {f g:Frm}:ZHe [] f g=True:=rfl
theorem ZGs {d:Nat}{r:List Nat}{f g:Frm}:ZHe (d::r) f g=(lk f d=lk g d/\ZHe r f g):=rfl
def ZQw (ops:Array Oper)(a:Nat)(ds:List Nat):Bool:=(List.range a).all fun k=>match(ops[k]?).bind (·.dst)with
 |some d=>ds.contains d
 |none=>true
def ZP3 (fs:List FuncId)(ops:Array Oper)(a:Nat):Bool:=(List.range a).all fun k=>match ops[k]? with
 |some o=> !ZM fs o.op
 |none=>true
def ZP2 (ops:Array Oper)(a:Nat):Bool:=(List.range ops.size).all fun k=>decide (k<a+2)||(waitB ops a ops.size k||waitB ops (a+1) ops.size k)
attribute [simp] ZIi ZGs
end
end Go.Vl
