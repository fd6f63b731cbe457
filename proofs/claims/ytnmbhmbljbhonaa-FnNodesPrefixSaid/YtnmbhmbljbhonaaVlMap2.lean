/- A part of the proof. -/
import Derived.Test.YtnmbhmbljbhonaaVlMap
set_option linter.all false
namespace Go.Vl
open Go Go.RowKit
section
variable {P : Program} {B N : Nat}
def ZN6 (P:Program)(B N:Nat)(b:Code)(Q:Exit->ASt->Ms->Prop)(e:Exit)(st:ASt)(ms:Ms):Prop:=
 match e with
 | .normal=>ZGx P B N b st ms (hold Q .mk)
 |e=>Q e st ms
def ZJP (id:Nat)(Q:Exit->ASt->Ms->Prop)(e:Exit)(st:ASt)(ms:Ms):Prop:=
 match e with
 | .exit id'=>if id'=id then Q .normal st ms else Q (.exit id') st ms
 |e=>Q e st ms
def ZK0 (ms:Ms)(K:Nat->Prop):Prop:=∀b,(∀p,p∈ms->p.1≠b)->K b
def lkM (ms:Ms)(x k:AV)(K:Bool->Prop):Prop:=match x,k with
 | .lit (.map (some b)),.lit (.string s)=>match ZEs ms b with
  |some ks=>K (dec (s∈ks))
  |none=>False
 |_,_=>False
def upM (ms:Ms)(x k v:AV)(K:Ms->Prop):Prop:=match x,k,v with
 | .lit (.map (some b)),.lit (.string s),.lit (.bool true)=>match ZEs ms b with
  |some ks=>K (ZIv ms b (ZLx ks s))
  |none=>False
 |_,_,_=>False
theorem ZNM {ms:Ms}{b:Nat}{s:ByteArray}{K:Bool->Prop}{k:Box K}:lkM ms (.lit (.map (some b))) (.lit (.string s)) (hold K k)=match ZEs ms b with
  |some ks=>K (dec (s∈ks))
  |none=>False:=rfl
theorem ZMg {ms:Ms}{b:Nat}{s:ByteArray}{K:Ms->Prop}{k:Box K}:upM ms (.lit (.map (some b))) (.lit (.string s)) (.lit (.bool true)) (hold K k)=match ZEs ms b with
  |some ks=>K (ZIv ms b (ZLx ks s))
  |none=>False:=rfl
theorem ZL4 {Q:Exit->ASt->Ms->Prop}{q:Box Q}{st:ASt}{ms:Ms}:ZGx P B N .skip st ms (hold Q q)=Q .normal st ms:=rfl
theorem ZL5 {Q:Exit->ASt->Ms->Prop}{q:Box Q}{st:ASt}{ms:Ms}{c:Code}:ZGx P B N (.loop c) st ms (hold Q q)=ZH7 P B N (hold c .mk) st ms (hold Q .mk):=rfl
theorem ZL6 {Q:Exit->ASt->Ms->Prop}{q:Box Q}{st:ASt}{ms:Ms}{i:Nat}:ZGx P B N (.exit i) st ms (hold Q q)=Q (.exit i) st ms:=rfl
theorem ZNU {Q:Exit->ASt->Ms->Prop}{q:Box Q}{st:ASt}{ms:Ms}:ZGx P B N .ret st ms (hold Q q)=Q .ret st ms:=rfl
theorem ZIL {Q:Exit->ASt->Ms->Prop}{st:ASt}{ms:Ms}{b:Code}:ZN6 P B N b Q .normal st ms=ZGx P B N b st ms (hold Q .mk):=rfl
theorem ZMl {Q:Exit->ASt->Ms->Prop}{st:ASt}{ms:Ms}{b:Code}:ZN6 P B N b Q .ret st ms=Q .ret st ms:=rfl
theorem ZLM {Q:Exit->ASt->Ms->Prop}{st:ASt}{ms:Ms}{b:Code}{i:Nat}:ZN6 P B N b Q (.exit i) st ms=Q (.exit i) st ms:=rfl
theorem ZJR {Q:Exit->ASt->Ms->Prop}{st:ASt}{ms:Ms}{i:Nat}:ZJP i Q .normal st ms=Q .normal st ms:=rfl
theorem ZNu {Q:Exit->ASt->Ms->Prop}{st:ASt}{ms:Ms}{i:Nat}:ZJP i Q .ret st ms=Q .ret st ms:=rfl
theorem ZMS {Q:Exit->ASt->Ms->Prop}{st:ASt}{ms:Ms}{i j:Nat}:ZJP i Q (.exit j) st ms=(if j=i then Q .normal st ms else Q (.exit j) st ms):=rfl
theorem ZIP {c:Code}{bc:Box c}{Q:Exit->ASt->Ms->Prop}{bQ:Box Q}{st:ASt}{ms:Ms}:ZIM P B N (hold c bc) (hold Q bQ) .normal st ms=ZFN P B N (hold c .mk) (hold Q .mk) st ms:=rfl
theorem ZMp {c:Code}{bc:Box c}{Q:Exit->ASt->Ms->Prop}{bQ:Box Q}{st:ASt}{ms:Ms}:ZIM P B N (hold c bc) (hold Q bQ) .ret st ms=ZD3 B N (hold Q .mk) .ret st ms:=rfl
theorem ZLQ {c:Code}{bc:Box c}{Q:Exit->ASt->Ms->Prop}{bQ:Box Q}{i:Nat}{st:ASt}{ms:Ms}:ZIM P B N (hold c bc) (hold Q bQ) (.exit i) st ms=ZD3 B N (hold Q .mk) (.exit i) st ms:=rfl
theorem ZHm {K:ASt->Ms->Prop}{k:Box K}{st:ASt}{ms:Ms}{ops:Array Oper}:ZB7 P B N ops [] st ms (hold K k)=K st ms:=rfl
theorem ZF6 {K:ASt->Ms->Prop}{k:Box K}{st:ASt}{ms:Ms}{ops:Array Oper}{bo:Box ops}{o:Oper}{rest:List Oper}:ZB7 P B N (hold ops bo) (o::rest) st ms (hold K k)=
  (if ZF1 o.op=true then ZAd (hold ops .mk) st.fr o.guard (hold (ZOh P N o st ms (hold (fun st' ms'=>ZB7 P B N (hold ops .mk) rest st' ms' (hold K .mk)) .mk)) .mk)
    (hold (ZAQ N o.dst (.lit undef) st.fr st.σ (hold (fun st'=>ZB7 P B N (hold ops .mk) rest st' ms (hold K .mk)) .mk)) .mk)
   else ZAd (hold ops .mk) st.fr o.guard (hold (aop P B N o st (hold (fun st'=>ZB7 P B N (hold ops .mk) rest st' ms (hold K .mk)) .mk)) .mk)
    (hold (ZAQ N o.dst (.lit undef) st.fr st.σ (hold (fun st'=>ZB7 P B N (hold ops .mk) rest st' ms (hold K .mk)) .mk)) .mk)):=rfl
theorem ZMT {K:ASt->Ms->Prop}{k:Box K}{st:ASt}{ms:Ms}{d:Option Nat}{t ty:TypeId}{p:String}{es:Array Edge}{g:Option (Nat×Bool)}:
  ZOh P N ⟨d,.makeMap t none,ty,p,es,g⟩ st ms (hold K k)=ZK0 ms (hold (fun b=>ZAQ N d (.lit (.map (some b))) st.fr st.σ (hold (fun st'=>K st' (ms++[(b,[])])) .mk)) .mk):=rfl
end
attribute [simp ↓] ZL4 ZL5 ZL6 ZNU ZIL ZMl ZLM ZJR ZNu ZMS ZIP ZMp ZLQ ZHm ZF6 ZMT
attribute [simp] ZNM ZMg ZEs ZIv ZF1
end Go.Vl
