/- Part. -/
import Derived.Test.YtodkbabdaoeooaaGreatDoorVlMap
set_option linter.all false
namespace Go.Vl
open Go Go.RowKit
section
variable {P : Program} {B N : Nat}
def ZQn (P:Program)(B N:Nat)(b:Code)(Q:Exit->ASt->Ms->Prop)(e:Exit)(st:ASt)(ms:Ms):Prop:=
 match e with
 | .normal=>ZBu P B N b st ms (hold Q .mk)
 |e=>Q e st ms
def ZIb (id:Nat)(Q:Exit->ASt->Ms->Prop)(e:Exit)(st:ASt)(ms:Ms):Prop:=
 match e with
 | .exit id'=>if id'=id then Q .normal st ms else Q (.exit id') st ms
 |e=>Q e st ms
def AMake (ms:Ms)(K:Nat->Prop):Prop:=∀b,(∀p,p∈ms->p.1≠b)->K b
theorem AMake.go {ms:Ms}{K:Nat->Prop}{k:Box K}(h:∀b,(∀p,p∈ms->p.1≠b)->K b):AMake ms (hold K k):=h
def lkM (ms:Ms)(x k:AV)(K:Bool->Prop):Prop:=match x,k with
 | .lit (.map (some b)),.lit (.string s)=>match ZEJ ms b with
  |some ks=>K (dec (s∈ks))
  |none=>False
 |_,_=>False
def upM (ms:Ms)(x k v:AV)(K:Ms->Prop):Prop:=match x,k,v with
 | .lit (.map (some b)),.lit (.string s),.lit (.bool true)=>match ZEJ ms b with
  |some ks=>K (ZEI ms b (ZJM ks s))
  |none=>False
 |_,_,_=>False
theorem ZP4 {ms:Ms}{b:Nat}{s:ByteArray}{K:Bool->Prop}{k:Box K}:lkM ms (.lit (.map (some b))) (.lit (.string s)) (hold K k)=match ZEJ ms b with
  |some ks=>K (dec (s∈ks))
  |none=>False:=rfl
theorem ZPE {ms:Ms}{b:Nat}{s:ByteArray}{K:Ms->Prop}{k:Box K}:upM ms (.lit (.map (some b))) (.lit (.string s)) (.lit (.bool true)) (hold K k)=match ZEJ ms b with
  |some ks=>K (ZEI ms b (ZJM ks s))
  |none=>False:=rfl
theorem ZOK {Q:Exit->ASt->Ms->Prop}{q:Box Q}{st:ASt}{ms:Ms}:ZBu P B N .skip st ms (hold Q q)=Q .normal st ms:=rfl
theorem ZKw {Q:Exit->ASt->Ms->Prop}{q:Box Q}{st:ASt}{ms:Ms}{id:Nat}{l:List Oper}:ZBu P B N (.region id (List.toArray l) false) st ms (hold Q q)=ZBM P B N (hold (List.toArray l) .mk) l st ms (hold (Q .normal) .mk):=by simp only[ZBu,Bool.false_eq_true,if_false,hold]
theorem ZON {Q:Exit->ASt->Ms->Prop}{q:Box Q}{st:ASt}{ms:Ms}{id:Nat}{ops:Array Oper}:ZBu P B N (.region id ops true) st ms (hold Q q)=ADraw P B st.σ.length N (hold ops .mk) st (hold (fun st'=>Q .normal st' ms) .mk):=by simp only[ZBu,if_true,hold]
theorem ZQD {Q:Exit->ASt->Ms->Prop}{q:Box Q}{st:ASt}{ms:Ms}{a b:Code}:ZBu P B N (.seq a b) st ms (hold Q q)=ZBu P B N a st ms (hold (ZQn P B N b Q) .mk):=by simp only[hold];rw[ZBu];congr
theorem ZOO {Q:Exit->ASt->Ms->Prop}{q:Box Q}{st:ASt}{ms:Ms}{c:Operand}{a b:Code}:ZBu P B N (.cond c a b) st ms (hold Q q)=(match ev st.fr c with
  | .lit (.bool v)=>abr (v=true) (hold (ZBu P B N a st ms (hold Q .mk)) .mk) (hold (ZBu P B N b st ms (hold Q .mk)) .mk)
  |_=>False):=by
 simp only[ZBu,hold]
 generalize ev st.fr c=v
 cases v<;>try rfl
 next v=>cases v<;>first|exact ZHx.symm|rfl
theorem ZMO {Q:Exit->ASt->Ms->Prop}{q:Box Q}{st:ASt}{ms:Ms}{id:Nat}{c:Code}:ZBu P B N (.block id c) st ms (hold Q q)=ZBu P B N c st ms (hold (ZIb id Q) .mk):=by simp only[hold];rw[ZBu];congr
theorem ZOL {Q:Exit->ASt->Ms->Prop}{q:Box Q}{st:ASt}{ms:Ms}{c:Code}:ZBu P B N (.loop c) st ms (hold Q q)=MLoop P B N (hold c .mk) st ms (hold Q .mk):=rfl
theorem ZOM {Q:Exit->ASt->Ms->Prop}{q:Box Q}{st:ASt}{ms:Ms}{i:Nat}:ZBu P B N (.exit i) st ms (hold Q q)=Q (.exit i) st ms:=rfl
theorem ZQE {Q:Exit->ASt->Ms->Prop}{q:Box Q}{st:ASt}{ms:Ms}:ZBu P B N .ret st ms (hold Q q)=Q .ret st ms:=rfl
theorem ZJ9 {Q:Exit->ASt->Ms->Prop}{st:ASt}{ms:Ms}{b:Code}:ZQn P B N b Q .normal st ms=ZBu P B N b st ms (hold Q .mk):=rfl
theorem ZPJ {Q:Exit->ASt->Ms->Prop}{st:ASt}{ms:Ms}{b:Code}:ZQn P B N b Q .ret st ms=Q .ret st ms:=rfl
theorem ZNb {Q:Exit->ASt->Ms->Prop}{st:ASt}{ms:Ms}{b:Code}{i:Nat}:ZQn P B N b Q (.exit i) st ms=Q (.exit i) st ms:=rfl
theorem ZLM {Q:Exit->ASt->Ms->Prop}{st:ASt}{ms:Ms}{i:Nat}:ZIb i Q .normal st ms=Q .normal st ms:=rfl
theorem ZQe {Q:Exit->ASt->Ms->Prop}{st:ASt}{ms:Ms}{i:Nat}:ZIb i Q .ret st ms=Q .ret st ms:=rfl
theorem ZOt {Q:Exit->ASt->Ms->Prop}{st:ASt}{ms:Ms}{i j:Nat}:ZIb i Q (.exit j) st ms=(if j=i then Q .normal st ms else Q (.exit j) st ms):=rfl
theorem ZKB {c:Code}{bc:Box c}{Q:Exit->ASt->Ms->Prop}{bQ:Box Q}{st:ASt}{ms:Ms}:ZFp P B N (hold c bc) (hold Q bQ) .normal st ms=AgainM P B N (hold c .mk) (hold Q .mk) st ms:=rfl
theorem ZPM {c:Code}{bc:Box c}{Q:Exit->ASt->Ms->Prop}{bQ:Box Q}{st:ASt}{ms:Ms}:ZFp P B N (hold c bc) (hold Q bQ) .ret st ms=LeaveM B N (hold Q .mk) .ret st ms:=rfl
theorem ZNf {c:Code}{bc:Box c}{Q:Exit->ASt->Ms->Prop}{bQ:Box Q}{i:Nat}{st:ASt}{ms:Ms}:ZFp P B N (hold c bc) (hold Q bQ) (.exit i) st ms=LeaveM B N (hold Q .mk) (.exit i) st ms:=rfl
theorem ZJV {K:ASt->Ms->Prop}{k:Box K}{st:ASt}{ms:Ms}{ops:Array Oper}:ZBM P B N ops [] st ms (hold K k)=K st ms:=rfl
theorem ZHS {K:ASt->Ms->Prop}{k:Box K}{st:ASt}{ms:Ms}{ops:Array Oper}{bo:Box ops}{o:Oper}{rest:List Oper}:ZBM P B N (hold ops bo) (o::rest) st ms (hold K k)=
  (if ZHO o.op=true then ZAp (hold ops .mk) st.fr o.guard (hold (ZMn P N o st ms (hold (fun st' ms'=>ZBM P B N (hold ops .mk) rest st' ms' (hold K .mk)) .mk)) .mk)
    (hold (ZAL N o.dst (.lit undef) st.fr st.σ (hold (fun st'=>ZBM P B N (hold ops .mk) rest st' ms (hold K .mk)) .mk)) .mk)
   else ZAp (hold ops .mk) st.fr o.guard (hold (aop P B N o st (hold (fun st'=>ZBM P B N (hold ops .mk) rest st' ms (hold K .mk)) .mk)) .mk)
    (hold (ZAL N o.dst (.lit undef) st.fr st.σ (hold (fun st'=>ZBM P B N (hold ops .mk) rest st' ms (hold K .mk)) .mk)) .mk)):=rfl
theorem ZOv {K:ASt->Ms->Prop}{k:Box K}{st:ASt}{ms:Ms}{d:Option Nat}{t ty:TypeId}{p:String}{es:Array Edge}{g:Option (Nat×Bool)}:
  ZMn P N ⟨d,.makeMap t none,ty,p,es,g⟩ st ms (hold K k)=AMake ms (hold (fun b=>ZAL N d (.lit (.map (some b))) st.fr st.σ (hold (fun st'=>K st' (ms++[(b,[])])) .mk)) .mk):=rfl
theorem ZLT {K:ASt->Ms->Prop}{k:Box K}{st:ASt}{ms:Ms}{d:Option Nat}{t ty:TypeId}{p:String}{es:Array Edge}{g:Option (Nat×Bool)}{x y:Operand}:
  ZMn P N ⟨d,.lookup t x y false,ty,p,es,g⟩ st ms (hold K k)=chk (ZNM P t=true) (hold (lkM ms (ev st.fr x) (ev st.fr y) (hold (fun v=>ZAL N d (.lit (.bool v)) st.fr st.σ (hold (fun st'=>K st' ms) .mk)) .mk)) .mk):=by
 simp only[ZMn,chk,hold,lkM];rfl
theorem ZLS {K:ASt->Ms->Prop}{k:Box K}{st:ASt}{ms:Ms}{d:Option Nat}{t ty:TypeId}{p:String}{es:Array Edge}{g:Option (Nat×Bool)}{x y z:Operand}:
  ZMn P N ⟨d,.mapUpdate t x y z,ty,p,es,g⟩ st ms (hold K k)=chk (ZNM P t=true) (hold (upM ms (ev st.fr x) (ev st.fr y) (ev st.fr z) (hold (fun ms'=>ZAL N d (.lit undef) st.fr st.σ (hold (fun st'=>K st' ms') .mk)) .mk)) .mk):=by
 simp only[ZMn,chk,hold,upM];rfl
theorem MLoop.know {c:Code}{st:ASt}{ms:Ms}{Q:Exit->ASt->Ms->Prop}(h:(∀i,(lk st.fr i).bnd B)->(∀(l:Nat) b,st.σ[l]? =some b->b.bnd B)->MLoop P B N c st ms Q):MLoop P B N c st ms Q:=by
 intro w00 m a w hs
 have hlt:(∀i,(lk st.fr i).bnd B):=fun i=>(hs.fr.2 i).bnd
 refine h hlt (fun l b hb=> ?_) w00 m a w hs
 have hs2:=hs.sim.blk l
 rw[hb]at hs2
 cases b with
 |dead=>trivial
 |pack xs vs=>trivial
 |tcells ot cs=>
  obtain⟨_,_,_,_,_,_,g4⟩:=hs2
  simp only[Blk.bnd]
  have:∀(k:List AV),(∀x,x∈k->x.bnd B)->AV.bnd.bnds B k:=by
   intro k
   induction k with
   |nil=>intro _;simp[AV.bnd.bnds]
   |cons a r ih2=>intro hl;simp only[AV.bnd.bnds];exact⟨hl a (by simp),ih2 fun x hx=>hl x (List.mem_cons_of_mem _ hx)⟩
  refine this cs fun x hx=> ?_
  obtain⟨i,hi⟩:=List.getElem?_of_mem hx
  obtain⟨_,_,hc⟩:=g4 i x hi
  exact hc.bnd
 |telems oe sz es=>exact hs2.2.1
theorem MLoop.enter {c:Code}{bc:Box c}{st:ASt}{ms:Ms}{Q:Exit->ASt->Ms->Prop}{bQ:Box Q}(h:ZBu P B N c st ms (hold (ZFp P B N (hold c .mk) (hold Q .mk)) .mk)):MLoop P B N (hold c bc) st ms (hold Q bQ):=MLoop.unroll h
theorem MLoop.goU {c:Code}{bc:Box c}{st:ASt}{ms:Ms}{Q:Exit->ASt->Ms->Prop}{bQ:Box Q}(st0:ASt)(hg:Gh B 0 N st st0)(h:MLoop P B N (hold c .mk) st0 ms (hold Q .mk)):MLoop P B N (hold c bc) st ms (hold Q bQ):=MLoop.from hg h
theorem AgainM.go {c:Code}{bc:Box c}{Q:Exit->ASt->Ms->Prop}{bQ:Box Q}{st:ASt}{ms:Ms}(st0:ASt)(hg:Gh B 0 N st st0)(h:MLoop P B N (hold c .mk) st0 ms (hold Q .mk)):AgainM P B N (hold c bc) (hold Q bQ) st ms:=⟨st0,hg,h⟩
theorem LeaveM.go {Q:Exit->ASt->Ms->Prop}{bQ:Box Q}{e:Exit}{st:ASt}{ms:Ms}(st0:ASt)(hg:Gh B 0 N st st0)(h:Q e st0 ms):LeaveM B N (hold Q bQ) e st ms:=⟨st0,hg,h⟩
end
attribute [simp ↓] ZOK ZKw ZON ZQD ZOO ZMO ZOL ZOM ZQE ZJ9 ZPJ ZNb ZLM ZQe ZOt ZKB ZPM ZNf ZJV ZHS ZOv ZLT ZLS
attribute [simp] ZP4 ZPE ZEJ ZEI ZHO
end Go.Vl
