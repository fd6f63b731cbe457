/- The value-level layer, part 18: drawn regions and simp. -/
import Derived.Test.YtojdombnghnbmaaVlDraw2
set_option linter.unusedSimpArgs false
set_option linter.unusedVariables false
namespace Go.Vl
open Go Go.RowKit
attribute [local simp] lk putK ev frOf AV.adv Sh.isAgg
theorem ADraw.pure {P:Program}{B nb N:Nat}{ops:Array Oper}{fr:Frm}{σ:Store}{K:ASt→Prop}(hm:P.follows .mixedOrders=true)(hd:drawB [] ops=true)(he:effCnt [] ops.toList=0)
  (h:aD [] P B N ops ops.toList fr [] [σ] fun _ ss fr'=>K ⟨fr',ss.headD []⟩):ADraw P B nb N ops ⟨fr,σ⟩ K:=by
 refine ADraw.base (fs:=[]) hm hd (C:=fun _ _=>True) ?_ ?_
 ·intro acc ss frN hl hlen hSlen _ i e hi hw hef hc hx hr s hs hne
  rw[he]at hs hSlen
  omega
 ·simpa using h
theorem PureCall.pcall {P:Program}{B:Nat}{f:FuncId}{args:List AV}{r:AV}(h:PureCall P B f args r)(hp:purs args){K:AV→Prop}(hK:K r):PCallA P B f args K:=⟨r,h,hp,hK⟩
end Go.Vl
