/- Part. -/
import Derived.Test.YtodkbabdaoeooaaGreatDoorVlG
import Derived.Test.YtodkbabdaoeooaaGreatDoorVlDraw3
set_option linter.all false
namespace Go.Vl
open Go Go.RowKit
section
variable {P : Program} {B nb N : Nat}
theorem PureCall.inLe {f : FuncId} {fn : Func} {c : Code} {args : List AV} {r : AV} (hf : P.funcs[f]? = some fn) (hb : fn.body = some c) (hN : fn.ntmps = N) (h : awp P B 0 N c ⟨ZCF 0 args, []⟩ (hold (ZA2 P fn fun r' _ => r'.le r) .mk))
    (hn:(fn.name== "runtime.NumGoroutine")=false:=by kernel_rfl) (hargs:args.length<=N:=by simp) (hr:r.pure:=by simp):PureCall P B f args r:=PureCall.enterLe hf hn hb hN hargs hr h
theorem MutCall.inn {f : FuncId} {fn : Func} {c : Code} {cs args : List AV} {r : AV} {cs' : List AV} (hf : P.funcs[f]? = some fn) (hb : fn.body = some c) (hN : fn.ntmps = N) (h : awp P B 1 N c ⟨ZCF 0 args, [.cells cs]⟩ (hold (ZA2 P fn fun r' σ' => r'.le r /\ ZEK σ' cs') .mk))
    (hn:(fn.name== "runtime.NumGoroutine")=false:=by kernel_rfl) (hargs:args.length<=N:=by simp) (hr:r.pure:=by simp) (hp:AV.pure.pures cs:=by simp) (hp':AV.pure.pures cs':=by simp):MutCall P B f cs args r cs':=MutCall.enter hf hn hb hN hargs hr hp hp' h
theorem ADraw.effI {ops : Array Oper} {b : Box ops} {fr : Frm} {σ : ZE} {K : ASt -> Prop} {b' : Box K} (fs : List FuncId) (tab : List (Nat × Nat)) (xs : List Nat) (hm : P.follows .mixedOrders = true) (h : aL fs P B N (hold ops .mk) ops.toList xs tab fr [σ] [] [] (hold (fun fr' σ' => K ⟨fr', σ'⟩) .mk))
    (hd:ZA1 fs ops=true:=by kernel_rfl) (ht:ZLo fs ops tab=true:=by kernel_rfl) (hx:ZCc fs ops tab (xs.map (· ==1))=true:=by kernel_rfl):ADraw P B nb N (hold ops b) ⟨fr,σ⟩ (hold K b'):=ADraw.eff fs tab xs hm hd ht hx h
theorem ADraw.simI {ops : Array Oper} {b : Box ops} {fr : Frm} {σ : ZE} {K : ASt -> Prop} {b' : Box K} (hm : P.follows .mixedOrders = true) (h : aP P B N (hold ops .mk) ops.toList fr σ (hold (fun fr' => K ⟨fr', σ⟩) .mk))
    (hd:ZA1 [] ops=true:=by kernel_rfl) (he:effCnt [] ops.toList=0:=by kernel_rfl):ADraw P B nb N (hold ops b) ⟨fr,σ⟩ (hold K b'):=ADraw.simple hm hd he h
theorem Gh.is {fr fr':Frm}{σ s:ZE}(hn:nb<=s.length:=by simp)(h:ZDb σ s/\Zn s.length s/\ZMW s.length fr fr':=by first|(simp -dsimp;done)|simp_all):Gh B nb N ⟨fr,σ⟩ ⟨fr',s⟩:=Gh.to3 hn h
theorem Leave.is {e:Exit}{fr fr':Frm}{σ s:ZE}{Q:Exit->ASt->Prop}{bQ:Box Q}(h:Q e ⟨fr',s⟩)(hn:nb<=s.length:=by simp)(hg:ZDb σ s/\Zn s.length s/\ZMW s.length fr fr':=by first|(simp -dsimp;done)|simp_all):Leave B nb N (hold Q bQ) e ⟨fr,σ⟩:=⟨_,Gh.to3 hn hg,h⟩
theorem Again.is {c : Code} {bc : Box c} {fr fr' : Frm} {σ s : ZE} {Q : Exit -> ASt -> Prop} {bQ : Box Q} (h : ALoopU P B nb N (hold c .mk) ⟨fr', s⟩ (hold Q .mk)) (hn : nb <= s.length := by simp) (hg : ZDb σ s /\ Zn s.length s /\ ZMW s.length fr fr' := by first | (simp -dsimp; done) | simp_all) :
    Again P B nb N (hold c bc) (hold Q bQ) ⟨fr,σ⟩:=⟨_,Gh.to3 hn hg,h⟩
theorem ALoop.is {c : Code} {bc : Box c} {fr fr' : Frm} {σ s : ZE} {Q : Exit -> ASt -> Prop} {bQ : Box Q} (h : ALoopU P B nb N (hold c .mk) ⟨fr', s⟩ (hold Q .mk)) (hn : nb <= s.length := by simp) (hg : ZDb σ s /\ Zn s.length s /\ ZMW s.length fr fr' := by first | (simp -dsimp; done) | simp_all) :
    ALoop P B nb N (hold c bc) ⟨fr,σ⟩ (hold Q bQ):=ALoop.goU _ (Gh.to3 hn hg) h
theorem PureCall.goI {f:FuncId}{args args':List AV}{r:AV}(h:PureCall P B f args' r){σ:ZE}{K:AV->ZE->Prop}{b:Box K}(hK:K r σ)(hl:AV.le.les args args':=by first|(simp;done)|simp_all)(hp:ZE9 args:=by simp):ACall P B f args σ (hold K b):=h.goW hl hp hK
theorem ZJ {x : Option Code} {c0 : Code} (hx : x = some c0) {H : (Exit -> ASt -> Prop) -> Prop} {st : ASt} (h : ∀ Q, H Q -> (∀ i, (lk st.fr i).bnd B) -> (∀ (l : Nat) b, st.σ[l]? = some b -> b.bnd B) -> ALoopU P B nb N (hold c0 .mk) st (hold Q .mk)) :
    ∀c,x=some c->∀Q,H Q->ALoopU P B nb N (hold c .mk) st (hold Q .mk):=fun c hc Q hq=>by
  rw[hx]at hc;cases hc
  exact ALoopU.know fun hk hs=>h Q hq hk hs
def KZ (q p:Prop):Prop:=q->p
theorem KZ.id {p:Prop}:KZ p p:=fun h=>h
theorem chk.gk {p q r:Prop}{b:Box q}(h':KZ r q)(h:p:=by first|omega|assumption|exact ZIL (by assumption)|rfl|(simp;done)|(simp;omega)|(simp[*];done)|(simp_all;done)|(simp_all;omega)):KZ r (chk p (hold q b)):=fun k=>⟨h,h' k⟩
theorem kz {q p:Prop}(h:q)(e:KZ q p:=by(repeat(first|refine chk.gk ?_|simp -dsimp));exact KZ.id):p:=e h
theorem ky {q p:Prop}(h:q)(e:KZ q p:=by(repeat(first|refine chk.gk ?_|simp -dsimp[*]));exact KZ.id):p:=e h
end
end Go.Vl
