/- A part of the proof. -/
import Derived.Test.YtkgcopogpmckdaaGreatVlMap
set_option linter.all false
namespace Go.Vl
open Go Go.RowKit
section
variable {P : Program} {B N : Nat}
def ZOR (P:Program)(B N:Nat)(b:Code)(Q:Exit->ASt->Ms->Prop)(e:Exit)(st:ASt)(ms:Ms):Prop:=
 match e with
 | .normal=>ZG4 P B N b st ms (hold Q .mk)
 |e=>Q e st ms
def ZJZ (id:Nat)(Q:Exit->ASt->Ms->Prop)(e:Exit)(st:ASt)(ms:Ms):Prop:=
 match e with
 | .exit id'=>if id'=id then Q .normal st ms else Q (.exit id') st ms
 |e=>Q e st ms
def ZLA (ms:Ms)(K:Nat->Prop):Prop:=∀b,(∀p,p∈ms->p.1≠b)->K b
def lkM (ms:Ms)(x k:AV)(K:Bool->Prop):Prop:=match x,k with
 | .lit (.map (some b)),.lit (.string s)=>match ZEv ms b with
  |some ks=>K (dec (s∈ks))
  |none=>False
 |_,_=>False
def upM (ms:Ms)(x k v:AV)(K:Ms->Prop):Prop:=match x,k,v with
 | .lit (.map (some b)),.lit (.string s),.lit (.bool true)=>match ZEv ms b with
  |some ks=>K (ZI4 ms b (ZL8 ks s))
  |none=>False
 |_,_,_=>False
theorem ZNf {ms:Ms}{b:Nat}{s:ByteArray}{K:Bool->Prop}{k:Box K}:lkM ms (.lit (.map (some b))) (.lit (.string s)) (hold K k)=match ZEv ms b with
  |some ks=>K (dec (s∈ks))
  |none=>False:=rfl
theorem ZMy {ms:Ms}{b:Nat}{s:ByteArray}{K:Ms->Prop}{k:Box K}:upM ms (.lit (.map (some b))) (.lit (.string s)) (.lit (.bool true)) (hold K k)=match ZEv ms b with
  |some ks=>K (ZI4 ms b (ZL8 ks s))
  |none=>False:=rfl
theorem ZMG {Q:Exit->ASt->Ms->Prop}{q:Box Q}{st:ASt}{ms:Ms}:ZG4 P B N .skip st ms (hold Q q)=Q .normal st ms:=rfl
theorem ZMH {Q:Exit->ASt->Ms->Prop}{q:Box Q}{st:ASt}{ms:Ms}{c:Code}:ZG4 P B N (.loop c) st ms (hold Q q)=ZIF P B N (hold c .mk) st ms (hold Q .mk):=rfl
theorem ZMI {Q:Exit->ASt->Ms->Prop}{q:Box Q}{st:ASt}{ms:Ms}{i:Nat}:ZG4 P B N (.exit i) st ms (hold Q q)=Q (.exit i) st ms:=rfl
theorem ZNn {Q:Exit->ASt->Ms->Prop}{q:Box Q}{st:ASt}{ms:Ms}:ZG4 P B N .ret st ms (hold Q q)=Q .ret st ms:=rfl
theorem ZIU {Q:Exit->ASt->Ms->Prop}{st:ASt}{ms:Ms}{b:Code}:ZOR P B N b Q .normal st ms=ZG4 P B N b st ms (hold Q .mk):=rfl
theorem ZM3 {Q:Exit->ASt->Ms->Prop}{st:ASt}{ms:Ms}{b:Code}:ZOR P B N b Q .ret st ms=Q .ret st ms:=rfl
theorem ZLX {Q:Exit->ASt->Ms->Prop}{st:ASt}{ms:Ms}{b:Code}{i:Nat}:ZOR P B N b Q (.exit i) st ms=Q (.exit i) st ms:=rfl
theorem ZJb {Q:Exit->ASt->Ms->Prop}{st:ASt}{ms:Ms}{i:Nat}:ZJZ i Q .normal st ms=Q .normal st ms:=rfl
theorem ZOF {Q:Exit->ASt->Ms->Prop}{st:ASt}{ms:Ms}{i:Nat}:ZJZ i Q .ret st ms=Q .ret st ms:=rfl
theorem ZMj {Q:Exit->ASt->Ms->Prop}{st:ASt}{ms:Ms}{i j:Nat}:ZJZ i Q (.exit j) st ms=(if j=i then Q .normal st ms else Q (.exit j) st ms):=rfl
theorem ZIY {c:Code}{bc:Box c}{Q:Exit->ASt->Ms->Prop}{bQ:Box Q}{st:ASt}{ms:Ms}:ZIV P B N (hold c bc) (hold Q bQ) .normal st ms=ZFP P B N (hold c .mk) (hold Q .mk) st ms:=rfl
theorem ZM7 {c:Code}{bc:Box c}{Q:Exit->ASt->Ms->Prop}{bQ:Box Q}{st:ASt}{ms:Ms}:ZIV P B N (hold c bc) (hold Q bQ) .ret st ms=ZD3 B N (hold Q .mk) .ret st ms:=rfl
theorem ZLb {c:Code}{bc:Box c}{Q:Exit->ASt->Ms->Prop}{bQ:Box Q}{i:Nat}{st:ASt}{ms:Ms}:ZIV P B N (hold c bc) (hold Q bQ) (.exit i) st ms=ZD3 B N (hold Q .mk) (.exit i) st ms:=rfl
theorem ZHu {K:ASt->Ms->Prop}{k:Box K}{st:ASt}{ms:Ms}{ops:Array Oper}:ZCA P B N ops [] st ms (hold K k)=K st ms:=rfl
theorem ZF8 {K:ASt->Ms->Prop}{k:Box K}{st:ASt}{ms:Ms}{ops:Array Oper}{bo:Box ops}{o:Oper}{rest:List Oper}:ZCA P B N (hold ops bo) (o::rest) st ms (hold K k)=
  (if ZF3 o.op=true then ZAg (hold ops .mk) st.fr o.guard (hold (ZO4 P N o st ms (hold (fun st' ms'=>ZCA P B N (hold ops .mk) rest st' ms' (hold K .mk)) .mk)) .mk)
    (hold (ZAU N o.dst (.lit undef) st.fr st.σ (hold (fun st'=>ZCA P B N (hold ops .mk) rest st' ms (hold K .mk)) .mk)) .mk)
   else ZAg (hold ops .mk) st.fr o.guard (hold (aop P B N o st (hold (fun st'=>ZCA P B N (hold ops .mk) rest st' ms (hold K .mk)) .mk)) .mk)
    (hold (ZAU N o.dst (.lit undef) st.fr st.σ (hold (fun st'=>ZCA P B N (hold ops .mk) rest st' ms (hold K .mk)) .mk)) .mk)):=rfl
theorem ZMl {K:ASt->Ms->Prop}{k:Box K}{st:ASt}{ms:Ms}{d:Option Nat}{t ty:TypeId}{p:String}{es:Array Edge}{g:Option (Nat×Bool)}:
  ZO4 P N ⟨d,.makeMap t none,ty,p,es,g⟩ st ms (hold K k)=ZLA ms (hold (fun b=>ZAU N d (.lit (.map (some b))) st.fr st.σ (hold (fun st'=>K st' (ms++[(b,[])])) .mk)) .mk):=rfl
end
attribute [simp ↓] ZMG ZMH ZMI ZNn ZIU ZM3 ZLX ZJb ZOF ZMj ZIY ZM7 ZLb ZHu ZF8 ZMl
attribute [simp] ZNf ZMy ZEv ZI4 ZF3
end Go.Vl
