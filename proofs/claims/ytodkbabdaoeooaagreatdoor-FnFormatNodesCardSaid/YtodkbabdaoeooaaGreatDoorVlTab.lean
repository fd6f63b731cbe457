/- Part. -/
import Derived.Test.YtodkbabdaoeooaaGreatDoorVlShelf
import Derived.Lib.LaidTab
set_option linter.all false
namespace Go.Vl
open Go Go.Proofs Go.Shelf Go.RowKit Go.ChangeShapes Go.WideShapes
open Go.Lib renaming pow10Tab->zA,TabIs->zB
def ZLZ (g:Nat):Nat:=BIG+(g+1)*18446744073709551616
theorem ZH3 (g:Nat):bd (ZLZ g)=BIG:=by
 have:BIG=9223372036854775807:=by decide
 unfold bd ZLZ;omega
theorem ZOy (g:Nat):1073741824<=bd (ZLZ g):=by rw[ZH3];decide
theorem ZOz (g:Nat):bd (ZLZ g)<=9223372036854775807:=by rw[ZH3];decide
theorem ZLY (g:Nat):ZLa (ZLZ g)=some g:=by
 have:BIG=9223372036854775807:=by decide
 unfold ZLa ZLZ
 rw[iN (by omega)]
 congr 1
 omega
theorem ZO0 (g:Nat):bd BIG=bd (ZLZ g):=by rw[ZH3];decide
section
variable {P : Program} {B : Nat} {ρ : Ren}
def ZIM (P:Program)(g:Nat):String:=((P.globals[g]?).map (·.name)).getD ""
theorem ZMD {g:Nat}(hk:P.globalNamed (ZIM P g)=some g){nm:String}(h:P.globals.findIdx? (·.name==nm)=some g):P.globalNamed nm=some g:=by
 obtain⟨hlt,h1,_⟩:=Array.findIdx?_eq_some_iff_getElem.1 h
 have e:P.globals[g].name=nm:=by simpa using h1
 have e2:ZIM P g=nm:=by unfold ZIM;rw[Array.getElem?_eq_getElem hlt];exact e
 rw[←e2];exact hk
theorem TbW.tab {g:Nat}{nm:String}{w:World}(h:TbW B w)(hB:ZLa B=some g)(hg:P.globalNamed nm=some g):zB P w nm .u64 zA:=by
 obtain⟨_,ccs,ty,fz,h3,rfl⟩:=h g hB
 unfold zB World.var?
 rw[hg,Option.bind_some,h3]
 simp only[ZFE,zA,List.map_map]
 rfl
theorem TbW.of_tab {g:Nat}{nm:String}{w:World}(h:zB P w nm .u64 zA)(hg:P.globalNamed nm=some g)(hB:ZLa B=some g):TbW B w:=by
 intro g' hg'
 rw[hB]at hg';obtain rfl:=Option.some.inj hg'
 unfold zB World.var? at h
 rw[hg,Option.bind_some]at h
 split at h
 ·next cs t fz hc=>
  refine⟨(Array.getElem?_eq_some_iff.1 hc).1,cs,t,fz,hc,?_⟩
  rw[Option.some.inj h]
  simp only[ZFE,zA,List.map_map]
  rfl
 ·cases h
theorem ZGx (L:LaysM.n171 P ρ)(he:Ent P (ρ.f 171)){g:Nat}(hk:P.globalNamed (ZIM P g)=some g)(hr:ρ.g 17=g)(hB:ZLa B=some g){n:Int}(h0: -9223372036854775808<=n)(h1:n<=9223372036854775807):
  PureCall P B (ρ.f 171) [.lit (.int .i64 n)] (.lit (.string (ZA5 n))):=by
 refine⟨he,by simp[AV.pure],fun av w vs hav hv=> ?_⟩
 obtain⟨hs,hc⟩:=hv
 have c0:=Conc.lit_inv (hc 0 _ rfl)
 have e:vs=#[.int .i64 n]:=by
  apply Array.ext
  ·simpa using hs
  ·intro i h1 h2
   have:i=0:=by simp at h2;omega
   subst this
   simpa[Array.getD,h1]using c0
 subst e
 have g17:=L.g17
 rw[hr]at g17
 refine(Any.strconv_Itoa L n h0 h1 w (hav.2.tab hB (ZMD hk g17))).mono ?_
 rintro e w' ⟨rfl,k,os,rfl⟩
 refine⟨_,rfl,.lit _,⟨rfl,rfl,rfl,?_,fun j hj=> ?_⟩⟩
 ·show w.heap.size<=(w.heap++os).size
  simp
 ·show(w.heap++os)[j]? =w.heap[j]?
  rw[Array.getElem?_append_left hj]
end
theorem ZIR {P:Program}{x:String×DataW Unit}{r:List (String×DataW Unit)}{w:World}(h:laidMet P (x::r) w):laidMet P r w:=by
 obtain⟨n,d⟩:=x
 obtain⟨ps,⟨g,t,cs,fuel,p,q,_,_,_,_,hq,rfl⟩,hnd,hrows⟩:=h
 exact⟨q,hq,(List.nodup_append.1 hnd).2.1,fun b off hm=>hrows b off (List.mem_append_right _ hm)⟩
theorem Conc.reB {B B':Nat}{W:Nat->Prop}{w:World}{m:Map}{x:AV}{v:Value}(e:bd B=bd B')(h:Conc B W w m x v):Conc B' W w m x v:=by
 induction h with
 |arr es b off sz cap ys hB hsz hW hb hcap hc hx ih=>exact .arr es b off sz cap ys (e▸hB) hsz hW hb hcap hc ih
 |rptr e off b o ys hW hb hc hx ih=>exact .rptr e off b o ys hW hb hc ih
 |agg cs us hlen hx ih=>exact .agg cs us hlen ih
 |tup cs us hlen hx ih=>exact .tup cs us hlen ih
 |fn f xs ys us vs g1 g2 hx hy ihx ihy=>exact .fn f xs ys us vs g1 g2 ihx ihy
 |lit v=>exact .lit v
 |junk v=>exact .junk v
 |arrNil a cap=>exact .arrNil a cap
 |ownOther l n a cap hl h hcap=>exact .ownOther l n a cap hl h hcap
 |ownNil l a hl h=>exact .ownNil l a hl h
 |ownArr l b sz len cap ccs ty hl h hh hcap hlen hz=>exact .ownArr l b sz len cap ccs ty hl h hh hcap hlen hz
 |preOther l n k v hl h=>exact .preOther l n k v hl h
 |preNil l a hl h=>exact .preNil l a hl h
 |preArr l b sz len k cap ccs ty hl h hk hh hcap hlen=>exact .preArr l b sz len k cap ccs ty hl h hk hh hcap hlen
 |ptrOther l off v hl h=>exact .ptrOther l off v hl h
 |ptrBox l off b hl h=>exact .ptrBox l off b hl h
 |eptrOther l n i off v hl h=>exact .eptrOther l n i off v hl h
 |eptrArr l n i off b sz hl h=>exact .eptrArr l n i off b sz hl h
section
variable {H : Type} {enc : TypeId × Value -> H} {P : Program}
theorem ZMJ {B':Nat}{f:FuncId}{fn:Func}{s:ChangeSpec}{tb:TypeId}(hbd:bd BIG=bd B')(hlaid:laidOutB P=true){L:List TypeId}(hty:tyB P L=true)
  (hts:∀t,t∈fn.params.toList->ZO8 P L t=true) (hres:fn.resultTypes=#[tb]) (htb:P.underlying tb=some .bool) (hv:s.vars=[])
  (hs:∀(ds:List (DataW H)),ds.length=fn.params.toList.length->s.fn H ds={results:=[.lit (.bool true)],args:=ds})
  (hcall:∀xs,ZBb P fn.params.toList xs->PureCall P B' f xs (.lit (.bool true)))
  {W:World} {base:Nat} {args:Array Value} {ds gs:List (DataW H)} {before:List MemPlace} {apart fresh handsOn:Bool}
  (hval:∀(j:Nat) t v,fn.params[j]? =some t->args[j]? =some v->Value.okWide P W .any base t v)
  (hW:DataW.Whole enc P fn.params.toList s.vars apart W args.toList ds gs before) (htab:TbW B' W):
  Calls P f args W fun e W'=>∃v,e=.returned v/\s.post enc P fn apart fresh handsOn false W args v W':=by
 have hW':=hW
 obtain⟨p,q,hA,hV,rfl,hfz,hnd⟩:=hW
 rw[hv]at hV
 obtain⟨rfl,rfl⟩:=trodVars_none hV
 obtain⟨xs,hl,hc,hta,hdl⟩:=ZFy hty fn.params.toList args.toList ds p hts (fun j t v h1 h2=>hval j t v (by simpa using h1) (by simpa using h2)) hA
 obtain⟨_,_,hrun⟩:=hcall xs hta
 refine(hrun (fun _=>False) W args ⟨fun b hb=>hb.elim,htab⟩ ⟨by simpa using hl,fun i x hi=> ?_⟩).mono ?_
 ·have:=(hc i x hi).reB hbd
  simpa[Array.getD_eq_getD_getElem?,List.getD_eq_getElem?_getD]using this
 rintro e W' ⟨u,rfl,hu,hb⟩
 have hu:=Conc.lit_inv hu
 subst hu
 have hlt:∀x,x∈p->x.block<W.heap.size:=fun x hx=>by simpa using hW'.lt x (by simpa using hx)
 have hargs:=ZCh hlaid hb hts hA hlt
 refine⟨_,rfl,?_⟩
 have hsp:s.fn H (ds++[])={results:=[.lit (.bool true)],args:=ds}:=by rw[List.append_nil];exact hs ds hdl
 refine⟨ds,[],p++[],[],p,[],hW',?_,?_,?_,hb.frame _,fun h=>by cases h⟩
 ·rw[hsp,hres];exact trodAll_mk1 (shut_bool htb true)
 ·rw[hsp];exact hargs
 ·rw[hv,hsp];exact rfl
end
end Go.Vl
