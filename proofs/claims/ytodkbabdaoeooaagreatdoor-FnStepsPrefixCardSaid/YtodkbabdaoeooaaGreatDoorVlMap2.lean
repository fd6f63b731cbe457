/- Part. -/
import Derived.Test.YtodkbabdaoeooaaGreatDoorVlMap
set_option linter.all false
namespace Go.Vl
open Go Go.RowKit
section
variable {P : Program} {B N : Nat}
def ZRA (P:Program)(B N:Nat)(b:Code)(Q:Exit->ASt->Ms->Prop)(e:Exit)(st:ASt)(ms:Ms):Prop:=
 match e with
 | .normal=>ZBk P B N b st ms (hold Q .mk)
 |e=>Q e st ms
def ZIq (id:Nat)(Q:Exit->ASt->Ms->Prop)(e:Exit)(st:ASt)(ms:Ms):Prop:=
 match e with
 | .exit id'=>if id'=id then Q .normal st ms else Q (.exit id') st ms
 |e=>Q e st ms
def AMake (ms:Ms)(K:Nat->Prop):Prop:=∀b,(∀p,p∈ms->p.1≠b)->K b
theorem AMake.go {ms:Ms}{K:Nat->Prop}{k:Box K}(h:∀b,(∀p,p∈ms->p.1≠b)->K b):AMake ms (hold K k):=h
def lkM (ms:Ms)(x k:AV)(K:Bool->Prop):Prop:=match x,k with
 | .lit (.map (some b)),.lit (.string s)=>match ZEM ms b with
  |some ks=>K (dec (s∈ks))
  |none=>False
 |_,_=>False
def upM (ms:Ms)(x k v:AV)(K:Ms->Prop):Prop:=match x,k,v with
 | .lit (.map (some b)),.lit (.string s),.lit (.bool true)=>match ZEM ms b with
  |some ks=>K (ZEL ms b (ZCT ks s))
  |none=>False
 |_,_,_=>False
theorem ZQT {ms:Ms}{b:Nat}{s:ByteArray}{K:Bool->Prop}{k:Box K}:lkM ms (.lit (.map (some b))) (.lit (.string s)) (hold K k)=match ZEM ms b with
  |some ks=>K (dec (s∈ks))
  |none=>False:=rfl
theorem ZPc {ms:Ms}{b:Nat}{s:ByteArray}{K:Ms->Prop}{k:Box K}:upM ms (.lit (.map (some b))) (.lit (.string s)) (.lit (.bool true)) (hold K k)=match ZEM ms b with
  |some ks=>K (ZEL ms b (ZCT ks s))
  |none=>False:=rfl
theorem ZOh {Q:Exit->ASt->Ms->Prop}{q:Box Q}{st:ASt}{ms:Ms}:ZBk P B N .skip st ms (hold Q q)=Q .normal st ms:=rfl
theorem ZLB {Q:Exit->ASt->Ms->Prop}{q:Box Q}{st:ASt}{ms:Ms}{id:Nat}{l:List Oper}:ZBk P B N (.region id (List.toArray l) false) st ms (hold Q q)=ZBO P B N (hold (List.toArray l) .mk) l st ms (hold (Q .normal) .mk):=by simp only[ZBk,Bool.false_eq_true,if_false,hold]
theorem ZOk {Q:Exit->ASt->Ms->Prop}{q:Box Q}{st:ASt}{ms:Ms}{id:Nat}{ops:Array Oper}:ZBk P B N (.region id ops true) st ms (hold Q q)=ADraw P B st.σ.length N (hold ops .mk) st (hold (fun st'=>Q .normal st' ms) .mk):=by simp only[ZBk,if_true,hold]
theorem ZQc {Q:Exit->ASt->Ms->Prop}{q:Box Q}{st:ASt}{ms:Ms}{a b:Code}:ZBk P B N (.seq a b) st ms (hold Q q)=ZBk P B N a st ms (hold (ZRA P B N b Q) .mk):=by simp only[hold];rw[ZBk];congr
theorem ZOl {Q:Exit->ASt->Ms->Prop}{q:Box Q}{st:ASt}{ms:Ms}{c:Operand}{a b:Code}:ZBk P B N (.cond c a b) st ms (hold Q q)=(match ev st.fr c with
  | .lit (.bool v)=>abr (v=true) (hold (ZBk P B N a st ms (hold Q .mk)) .mk) (hold (ZBk P B N b st ms (hold Q .mk)) .mk)
  |_=>False):=by
 simp only[ZBk,hold]
 generalize ev st.fr c=v
 cases v<;>try rfl
 next v=>cases v<;>first|exact ZIC.symm|rfl
theorem ZMY {Q:Exit->ASt->Ms->Prop}{q:Box Q}{st:ASt}{ms:Ms}{id:Nat}{c:Code}:ZBk P B N (.block id c) st ms (hold Q q)=ZBk P B N c st ms (hold (ZIq id Q) .mk):=by simp only[hold];rw[ZBk];congr
theorem ZOi {Q:Exit->ASt->Ms->Prop}{q:Box Q}{st:ASt}{ms:Ms}{c:Code}:ZBk P B N (.loop c) st ms (hold Q q)=MLoop P B N (hold c .mk) st ms (hold Q .mk):=rfl
theorem ZOj {Q:Exit->ASt->Ms->Prop}{q:Box Q}{st:ASt}{ms:Ms}{i:Nat}:ZBk P B N (.exit i) st ms (hold Q q)=Q (.exit i) st ms:=rfl
theorem ZQd {Q:Exit->ASt->Ms->Prop}{q:Box Q}{st:ASt}{ms:Ms}:ZBk P B N .ret st ms (hold Q q)=Q .ret st ms:=rfl
theorem ZKK {Q:Exit->ASt->Ms->Prop}{st:ASt}{ms:Ms}{b:Code}:ZRA P B N b Q .normal st ms=ZBk P B N b st ms (hold Q .mk):=rfl
theorem ZPh {Q:Exit->ASt->Ms->Prop}{st:ASt}{ms:Ms}{b:Code}:ZRA P B N b Q .ret st ms=Q .ret st ms:=rfl
theorem ZNv {Q:Exit->ASt->Ms->Prop}{st:ASt}{ms:Ms}{b:Code}{i:Nat}:ZRA P B N b Q (.exit i) st ms=Q (.exit i) st ms:=rfl
theorem ZLX {Q:Exit->ASt->Ms->Prop}{st:ASt}{ms:Ms}{i:Nat}:ZIq i Q .normal st ms=Q .normal st ms:=rfl
theorem ZQ2 {Q:Exit->ASt->Ms->Prop}{st:ASt}{ms:Ms}{i:Nat}:ZIq i Q .ret st ms=Q .ret st ms:=rfl
theorem ZPF {Q:Exit->ASt->Ms->Prop}{st:ASt}{ms:Ms}{i j:Nat}:ZIq i Q (.exit j) st ms=(if j=i then Q .normal st ms else Q (.exit j) st ms):=rfl
theorem ZKO {c:Code}{bc:Box c}{Q:Exit->ASt->Ms->Prop}{bQ:Box Q}{st:ASt}{ms:Ms}:ZF3 P B N (hold c bc) (hold Q bQ) .normal st ms=AgainM P B N (hold c .mk) (hold Q .mk) st ms:=rfl
theorem ZPk {c:Code}{bc:Box c}{Q:Exit->ASt->Ms->Prop}{bQ:Box Q}{st:ASt}{ms:Ms}:ZF3 P B N (hold c bc) (hold Q bQ) .ret st ms=LeaveM B N (hold Q .mk) .ret st ms:=rfl
theorem ZNz {c:Code}{bc:Box c}{Q:Exit->ASt->Ms->Prop}{bQ:Box Q}{i:Nat}{st:ASt}{ms:Ms}:ZF3 P B N (hold c bc) (hold Q bQ) (.exit i) st ms=LeaveM B N (hold Q .mk) (.exit i) st ms:=rfl
theorem ZJg {K:ASt->Ms->Prop}{k:Box K}{st:ASt}{ms:Ms}{ops:Array Oper}:ZBO P B N ops [] st ms (hold K k)=K st ms:=rfl
theorem ZHk {K:ASt->Ms->Prop}{k:Box K}{st:ASt}{ms:Ms}{ops:Array Oper}{bo:Box ops}{o:Oper}{rest:List Oper}:ZBO P B N (hold ops bo) (o::rest) st ms (hold K k)=
  (if ZHf o.op=true then ZAj (hold ops .mk) st.fr o.guard (hold (ZM1 P N o st ms (hold (fun st' ms'=>ZBO P B N (hold ops .mk) rest st' ms' (hold K .mk)) .mk)) .mk)
    (hold (ZAK N o.dst (.lit undef) st.fr st.σ (hold (fun st'=>ZBO P B N (hold ops .mk) rest st' ms (hold K .mk)) .mk)) .mk)
   else ZAj (hold ops .mk) st.fr o.guard (hold (aop P B N o st (hold (fun st'=>ZBO P B N (hold ops .mk) rest st' ms (hold K .mk)) .mk)) .mk)
    (hold (ZAK N o.dst (.lit undef) st.fr st.σ (hold (fun st'=>ZBO P B N (hold ops .mk) rest st' ms (hold K .mk)) .mk)) .mk)):=rfl
theorem ZPJ {K:ASt->Ms->Prop}{k:Box K}{st:ASt}{ms:Ms}{d:Option Nat}{t ty:TypeId}{p:String}{es:Array Edge}{g:Option (Nat×Bool)}:
  ZM1 P N ⟨d,.makeMap t none,ty,p,es,g⟩ st ms (hold K k)=AMake ms (hold (fun b=>ZAK N d (.lit (.map (some b))) st.fr st.σ (hold (fun st'=>K st' (ms++[(b,[])])) .mk)) .mk):=rfl
theorem ZLe {K:ASt->Ms->Prop}{k:Box K}{st:ASt}{ms:Ms}{d:Option Nat}{t ty:TypeId}{p:String}{es:Array Edge}{g:Option (Nat×Bool)}{x y:Operand}:
  ZM1 P N ⟨d,.lookup t x y false,ty,p,es,g⟩ st ms (hold K k)=chk (ZMP P t=true) (hold (lkM ms (ev st.fr x) (ev st.fr y) (hold (fun v=>ZAK N d (.lit (.bool v)) st.fr st.σ (hold (fun st'=>K st' ms) .mk)) .mk)) .mk):=by
 simp only[ZM1,chk,hold,lkM];rfl
theorem ZLd {K:ASt->Ms->Prop}{k:Box K}{st:ASt}{ms:Ms}{d:Option Nat}{t ty:TypeId}{p:String}{es:Array Edge}{g:Option (Nat×Bool)}{x y z:Operand}:
  ZM1 P N ⟨d,.mapUpdate t x y z,ty,p,es,g⟩ st ms (hold K k)=chk (ZMP P t=true) (hold (upM ms (ev st.fr x) (ev st.fr y) (ev st.fr z) (hold (fun ms'=>ZAK N d (.lit undef) st.fr st.σ (hold (fun st'=>K st' ms') .mk)) .mk)) .mk):=by
 simp only[ZM1,chk,hold,upM];rfl
theorem MLoop.know {c:Code}{st:ASt}{ms:Ms}{Q:Exit->ASt->Ms->Prop}(h:(∀i,(lk st.fr i).bnd B)->(∀(l:Nat) b,st.σ[l]? =some b->b.bnd B)->MLoop P B N c st ms Q):MLoop P B N c st ms Q:=by
 intro w00 m a w hs
 have hlt:(∀i,(lk st.fr i).bnd B):=fun i=>(hs.fr.2 i).bnd
 refine h hlt (fun l b hb=> ?_) w00 m a w hs
 have hs2:=hs.sim.blk l
 rw[hb]at hs2
 cases b with
 |dead=>trivial
 |pack xs vs=>trivial
 |tcells ot cs=>
  obtain⟨_,_,_,_,_,_,g4⟩:=hs2
  simp only[Blk.bnd]
  have:∀(k:List AV),(∀x,x∈k->x.bnd B)->AV.bnd.bnds B k:=by
   intro k
   induction k with
   |nil=>intro _;simp[AV.bnd.bnds]
   |cons a r ih2=>intro hl;simp only[AV.bnd.bnds];exact⟨hl a (by simp),ih2 fun x hx=>hl x (List.mem_cons_of_mem _ hx)⟩
  refine this cs fun x hx=> ?_
  obtain⟨i,hi⟩:=List.getElem?_of_mem hx
  obtain⟨_,_,hc⟩:=g4 i x hi
  exact hc.bnd
 |telems oe sz es=>exact hs2.2.1
theorem MLoop.enter {c:Code}{bc:Box c}{st:ASt}{ms:Ms}{Q:Exit->ASt->Ms->Prop}{bQ:Box Q}(h:ZBk P B N c st ms (hold (ZF3 P B N (hold c .mk) (hold Q .mk)) .mk)):MLoop P B N (hold c bc) st ms (hold Q bQ):=MLoop.unroll h
theorem MLoop.goU {c:Code}{bc:Box c}{st:ASt}{ms:Ms}{Q:Exit->ASt->Ms->Prop}{bQ:Box Q}(st0:ASt)(hg:Gh B 0 N st st0)(h:MLoop P B N (hold c .mk) st0 ms (hold Q .mk)):MLoop P B N (hold c bc) st ms (hold Q bQ):=MLoop.from hg h
theorem AgainM.go {c:Code}{bc:Box c}{Q:Exit->ASt->Ms->Prop}{bQ:Box Q}{st:ASt}{ms:Ms}(st0:ASt)(hg:Gh B 0 N st st0)(h:MLoop P B N (hold c .mk) st0 ms (hold Q .mk)):AgainM P B N (hold c bc) (hold Q bQ) st ms:=⟨st0,hg,h⟩
theorem LeaveM.go {Q:Exit->ASt->Ms->Prop}{bQ:Box Q}{e:Exit}{st:ASt}{ms:Ms}(st0:ASt)(hg:Gh B 0 N st st0)(h:Q e st0 ms):LeaveM B N (hold Q bQ) e st ms:=⟨st0,hg,h⟩
theorem PureCall.enterM {f:FuncId}{fn:Func}{c:Code}{args:List AV}{v:Value}(hf:P.funcs[f]? =some fn)(hn:(fn.name== "runtime.NumGoroutine")=false)(hb:fn.body=some c)
  (hN:fn.ntmps=N) (hargs:args.length<=N) (h:ZBk P B N c ⟨ZCX 0 args,[]⟩ [] (hold (fun e st _=>ZAm P fn (fun r' _=>r'=.lit v) e st) .mk)):PureCall P B f args (.lit v):=PureCall.introM hf hn hb hN hargs h
end
attribute [simp ↓] ZOh ZLB ZOk ZQc ZOl ZMY ZOi ZOj ZQd ZKK ZPh ZNv ZLX ZQ2 ZPF ZKO ZPk ZNz ZJg ZHk ZPJ ZLe ZLd
attribute [simp] ZQT ZPc ZEM ZEL ZHf
end Go.Vl
