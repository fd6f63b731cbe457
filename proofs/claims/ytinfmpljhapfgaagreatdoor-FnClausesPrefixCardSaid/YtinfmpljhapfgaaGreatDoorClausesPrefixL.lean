/- A part of the proof. -/
import Derived.Test.YtinfmpljhapfgaaGreatDoorClausesPrefixB
set_option linter.all false
set_option maxRecDepth 100000
namespace Go.Vl
open Go Go.RowKit
open Go.IntKind (i64)
theorem P.FnClausesPrefix (code more:List Int)(hc:ZDa code)(hm:ZDa more):F.f167 code more=some true:=by
  unfold F.f167
  split
  · rfl
  split
  · rfl
  obtain⟨w,t,l,e,hw,hp⟩:=P.YX code hc
  rw[e]
  simp only[oE,oS]
  rw[P.YC w hw t l hp,P.YU w hw t l hp]
  simp only[oS]
  rw[if_pos True.intro]
  by_cases h:ZO5 w t l
  · rw[if_pos (ZG h)]
    by_cases h0:l.length=0
    · rw[if_pos h0];simp
    rw[if_neg h0,if_pos (by omega),P.YI w hw t l hp h]
    simp only[oS]
    have hl8:l.length<=8:=h.2.1
    have em:(more.length:Int).tmod (l.length:Int)=((more.length%l.length:Nat):Int):=(Int.ofNat_tmod more.length l.length).symm
    have hmod:=Nat.mod_lt more.length (show 0<l.length by omega)
    have ew:i64.wrap (1+(more.length:Int).tmod (l.length:Int))=((1+more.length%l.length:Nat):Int):=by rw[em,ZF (by omega) (by omega)];omega
    rw[ew]
    generalize hn:1+more.length%l.length=n
    have hnl:n<=l.length:=by omega
    have ht:(l.drop 0).take (((n:Nat):Int).toNat-0)=l.take n:=by simp
    have hp':∀c,c∈l.take n->c.pat.wt<=1048576:=fun c hh=>hp c (List.mem_of_mem_take hh)
    have h':ZO5 w t (l.take n):=⟨h.1,by rw[List.length_take];omega,fun c hh=>h.2.2 c (List.mem_of_mem_take hh)⟩
    rw[if_pos (by omega),ht,P.YI w hw t _ hp' h',P.YC w hw t _ hp',ZG h']
    simp only[oS]
    obtain⟨r,er⟩:=ZD7 ⟨#[47]⟩ ((l.drop n).map (ZIY w t)) ((l.take n).map (ZIY w t)) (by
      intro hh
      have:=congrArg List.length hh
      rw[List.length_map,List.length_take,List.length_nil]at this
      omega)
    rw[←List.map_append,List.take_append_drop]at er
    rw[er]
    generalize ZCD ((l.take n).map (ZIY w t)) ⟨#[47]⟩=a
    rw[if_pos True.intro,if_pos (by rw[ZZ];omega)]
    have:((a++r).extract 0 a.size)=a:=by
      refine ZDc ?_
      rw[ByteArray.data_extract,ByteArray.data_append,Array.toList_extract,Array.toList_append,ZDb a,List.extract_eq_drop_take,Nat.sub_zero,List.drop_zero]
      exact List.take_left
    rw[this]
    simp
  · rw[if_neg (by rw[ZE h];simp)];simp
end Go.Vl
