/- A part of the proof. -/
import Derived.Test.YtnmbhmbljbhonaaGreatVlMap
set_option linter.all false
namespace Go.Vl
open Go Go.RowKit
section
variable {P : Program} {B N : Nat}
def ZOD (P:Program)(B N:Nat)(b:Code)(Q:Exit->ASt->Ms->Prop)(e:Exit)(st:ASt)(ms:Ms):Prop:=
 match e with
 | .normal=>ZG3 P B N b st ms (hold Q .mk)
 |e=>Q e st ms
def ZJV (id:Nat)(Q:Exit->ASt->Ms->Prop)(e:Exit)(st:ASt)(ms:Ms):Prop:=
 match e with
 | .exit id'=>if id'=id then Q .normal st ms else Q (.exit id') st ms
 |e=>Q e st ms
def ZK5 (ms:Ms)(K:Nat->Prop):Prop:=∀b,(∀p,p∈ms->p.1≠b)->K b
def lkM (ms:Ms)(x k:AV)(K:Bool->Prop):Prop:=match x,k with
 | .lit (.map (some b)),.lit (.string s)=>match ZEz ms b with
  |some ks=>K (dec (s∈ks))
  |none=>False
 |_,_=>False
def upM (ms:Ms)(x k v:AV)(K:Ms->Prop):Prop:=match x,k,v with
 | .lit (.map (some b)),.lit (.string s),.lit (.bool true)=>match ZEz ms b with
  |some ks=>K (ZI3 ms b (ZL3 ks s))
  |none=>False
 |_,_,_=>False
theorem ZNU {ms:Ms}{b:Nat}{s:ByteArray}{K:Bool->Prop}{k:Box K}:lkM ms (.lit (.map (some b))) (.lit (.string s)) (hold K k)=match ZEz ms b with
  |some ks=>K (dec (s∈ks))
  |none=>False:=rfl
theorem ZMm {ms:Ms}{b:Nat}{s:ByteArray}{K:Ms->Prop}{k:Box K}:upM ms (.lit (.map (some b))) (.lit (.string s)) (.lit (.bool true)) (hold K k)=match ZEz ms b with
  |some ks=>K (ZI3 ms b (ZL3 ks s))
  |none=>False:=rfl
theorem ZMA {Q:Exit->ASt->Ms->Prop}{q:Box Q}{st:ASt}{ms:Ms}:ZG3 P B N .skip st ms (hold Q q)=Q .normal st ms:=rfl
theorem ZMB {Q:Exit->ASt->Ms->Prop}{q:Box Q}{st:ASt}{ms:Ms}{c:Code}:ZG3 P B N (.loop c) st ms (hold Q q)=ZIF P B N (hold c .mk) st ms (hold Q .mk):=rfl
theorem ZMC {Q:Exit->ASt->Ms->Prop}{q:Box Q}{st:ASt}{ms:Ms}{i:Nat}:ZG3 P B N (.exit i) st ms (hold Q q)=Q (.exit i) st ms:=rfl
theorem ZNc {Q:Exit->ASt->Ms->Prop}{q:Box Q}{st:ASt}{ms:Ms}:ZG3 P B N .ret st ms (hold Q q)=Q .ret st ms:=rfl
theorem ZIT {Q:Exit->ASt->Ms->Prop}{st:ASt}{ms:Ms}{b:Code}:ZOD P B N b Q .normal st ms=ZG3 P B N b st ms (hold Q .mk):=rfl
theorem ZMr {Q:Exit->ASt->Ms->Prop}{st:ASt}{ms:Ms}{b:Code}:ZOD P B N b Q .ret st ms=Q .ret st ms:=rfl
theorem ZLS {Q:Exit->ASt->Ms->Prop}{st:ASt}{ms:Ms}{b:Code}{i:Nat}:ZOD P B N b Q (.exit i) st ms=Q (.exit i) st ms:=rfl
theorem ZJX {Q:Exit->ASt->Ms->Prop}{st:ASt}{ms:Ms}{i:Nat}:ZJV i Q .normal st ms=Q .normal st ms:=rfl
theorem ZN2 {Q:Exit->ASt->Ms->Prop}{st:ASt}{ms:Ms}{i:Nat}:ZJV i Q .ret st ms=Q .ret st ms:=rfl
theorem ZMY {Q:Exit->ASt->Ms->Prop}{st:ASt}{ms:Ms}{i j:Nat}:ZJV i Q (.exit j) st ms=(if j=i then Q .normal st ms else Q (.exit j) st ms):=rfl
theorem ZIX {c:Code}{bc:Box c}{Q:Exit->ASt->Ms->Prop}{bQ:Box Q}{st:ASt}{ms:Ms}:ZIU P B N (hold c bc) (hold Q bQ) .normal st ms=ZFS P B N (hold c .mk) (hold Q .mk) st ms:=rfl
theorem ZMv {c:Code}{bc:Box c}{Q:Exit->ASt->Ms->Prop}{bQ:Box Q}{st:ASt}{ms:Ms}:ZIU P B N (hold c bc) (hold Q bQ) .ret st ms=ZD5 B N (hold Q .mk) .ret st ms:=rfl
theorem ZLW {c:Code}{bc:Box c}{Q:Exit->ASt->Ms->Prop}{bQ:Box Q}{i:Nat}{st:ASt}{ms:Ms}:ZIU P B N (hold c bc) (hold Q bQ) (.exit i) st ms=ZD5 B N (hold Q .mk) (.exit i) st ms:=rfl
theorem ZHu {K:ASt->Ms->Prop}{k:Box K}{st:ASt}{ms:Ms}{ops:Array Oper}:ZCA P B N ops [] st ms (hold K k)=K st ms:=rfl
theorem ZGA {K:ASt->Ms->Prop}{k:Box K}{st:ASt}{ms:Ms}{ops:Array Oper}{bo:Box ops}{o:Oper}{rest:List Oper}:ZCA P B N (hold ops bo) (o::rest) st ms (hold K k)=
  (if ZF5 o.op=true then ZAj (hold ops .mk) st.fr o.guard (hold (ZOo P N o st ms (hold (fun st' ms'=>ZCA P B N (hold ops .mk) rest st' ms' (hold K .mk)) .mk)) .mk)
    (hold (ZAW N o.dst (.lit undef) st.fr st.σ (hold (fun st'=>ZCA P B N (hold ops .mk) rest st' ms (hold K .mk)) .mk)) .mk)
   else ZAj (hold ops .mk) st.fr o.guard (hold (aop P B N o st (hold (fun st'=>ZCA P B N (hold ops .mk) rest st' ms (hold K .mk)) .mk)) .mk)
    (hold (ZAW N o.dst (.lit undef) st.fr st.σ (hold (fun st'=>ZCA P B N (hold ops .mk) rest st' ms (hold K .mk)) .mk)) .mk)):=rfl
theorem ZMZ {K:ASt->Ms->Prop}{k:Box K}{st:ASt}{ms:Ms}{d:Option Nat}{t ty:TypeId}{p:String}{es:Array Edge}{g:Option (Nat×Bool)}:
  ZOo P N ⟨d,.makeMap t none,ty,p,es,g⟩ st ms (hold K k)=ZK5 ms (hold (fun b=>ZAW N d (.lit (.map (some b))) st.fr st.σ (hold (fun st'=>K st' (ms++[(b,[])])) .mk)) .mk):=rfl
end
attribute [simp ↓] ZMA ZMB ZMC ZNc ZIT ZMr ZLS ZJX ZN2 ZMY ZIX ZMv ZLW ZHu ZGA ZMZ
attribute [simp] ZNU ZMm ZEz ZI3 ZF5
end Go.Vl
