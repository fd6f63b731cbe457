/- Part. -/
import Derived.Test.YtmjpphcloedceaaGreatVlDrawN
set_option linter.all false
open Array renaming getD_eq_getD_getElem?->zA
namespace Go.Vl
open Go Go.RowKit
section
variable {P : Program} {B nb N : Nat}
mutual
inductive Brd (σ:ZE):AV->AV->Prop
 |of {x y:AV} (h:brw σ x y):Brd σ x y
 |deep (l p n sz:Nat) {es rows:List (List AV)} {zs:List AV} {us:List Value} (h1:σ[l]? =some (.elems sz rows)) (h2:σ[p]? =some (.pack zs us)) (hz:zs=es.flatten) (hr:rows.flatten=us.map .lit) (hn:rows.length=n) (he:es.length=n) (hs:∀e,e∈es->e.length=sz):Brd σ (.own l n) (.arr es)
 |ptr (l off:Nat) {cs cs':List AV} (h:σ[l]? =some (.cells cs)) (hc:Brds σ cs cs'):Brd σ (.ptr l off) (.rptr cs' off)
 |fn (f:Fn) {xs xs' ys ys':List AV} (h1:Brds σ xs xs') (h2:Brds σ ys ys'):Brd σ (.fn f xs ys) (.fn f xs' ys')
 |agg {xs ys:List AV} (h:Brds σ xs ys):Brd σ (.agg xs) (.agg ys)
inductive Brds (σ:ZE):List AV->List AV->Prop
 |nil:Brds σ [] []
 |cons {x y:AV} {xs ys:List AV} (h:Brd σ x y) (hs:Brds σ xs ys):Brds σ (x::xs) (y::ys)
end
theorem Brds.lits {σ:ZE}{α:Type}(f:α->Value):∀l:List α,Brds σ (l.map fun k=>.lit (f k)) (l.map fun k=>.lit (f k))
 | []=>.nil
 |a::r=>.cons (.of (by simp[brw,AV.le,AV.pure])) (Brds.lits f r)
mutual
theorem Brd.sound {σ:ZE}{m:Map}{w:World}(h:Sim B m σ w):∀{x y:AV},Brd σ x y->∀v:Value,Conc B (Av m) w m x v->Conc B m.av w M0 y v
 |_,_,.of hb,v,hx=>ZFu h _ _ v hx hb
 |_,_,.deep l p n sz h1 h2 hz hr hn he hs,v,hx=>by
  obtain⟨F,d1,d2,d3⟩:=ZEo h h1 h2 hz hr hn he hs hx
  obtain⟨u',hu,hc⟩:=d1.conc (W:=m.av) (fun b hb=>h.sep b ((d3 b hb).elim (fun q=>⟨l,q⟩) fun q=>⟨p,q⟩)) 0 _ rfl
  simp at hu;subst hu;exact hc
 |_,_,.ptr (cs:=cs) (cs':=cs') l off hl hc,v,hx=>by
  have hbk:=h.blk l
  rw[hl]at hbk
  obtain⟨b,ccs,ty,g1,g2,g3,g4⟩:=hbk
  have hv:v=.pointer (some ⟨b,off,none⟩):=by
   cases hx with
   |ptrOther l off v hl' hne=>exact absurd g1 (hne b)
   |ptrBox l off b' hl' hb'=>rw[g1]at hb';cases hb';rfl
  subst hv
  have hw:Wr m b:=⟨l,by rw[g1];rfl⟩
  obtain⟨a1,a2⟩:=Brds.sound h hc (fun k=>ccs.getD k undef) (fun k x hk=>by
   obtain⟨y,hy,hcc⟩:=g4 k x hk
   have e:ccs.getD k undef=y:=by simp[zA,hy]
   rw[e];exact hcc)
  have:=Conc.rptr (B:=B) (W:=m.av) (w:=w) (m:=M0) cs' off b 0 (fun k=>ccs.getD k undef) (h.sep b hw) (h.mapOk b hw).1 (fun k x hk=>by
    have hk':k<cs.length:=by rw[a1];exact(List.getElem?_eq_some_iff.1 hk).1
    obtain⟨y,hy,_⟩:=g4 k _ (List.getElem?_eq_getElem hk')
    rw[ZBL g2,Nat.zero_add]
    simp[zA,hy]) a2
  simpa using this
 |_,_,.fn f h1 h2,v,hx=>by
  cases hx with
  |fn _ _ _ us vs l1 l2 c1 c2=>
   obtain⟨a1,a2⟩:=Brds.sound h h1 (fun i=>us.getD i undef) c1
   obtain⟨b1,b2⟩:=Brds.sound h h2 (fun i=>vs.getD i undef) c2
   exact .fn f _ _ us vs (by omega) (by omega) a2 b2
 |_,_,.agg hb,v,hx=>by
  cases hx with
  |agg _ us hlen hc=>
   obtain⟨a1,a2⟩:=Brds.sound h hb (fun i=>us.getD i undef) hc
   exact .agg _ us (by omega) a2
theorem Brds.sound {σ:ZE}{m:Map}{w:World}(h:Sim B m σ w):∀{xs ys:List AV},Brds σ xs ys->∀us:Nat->Value,(∀(i:Nat) (x:AV),xs[i]? =some x->Conc B (Av m) w m x (us i))->
  xs.length=ys.length/\∀(i:Nat) (y:AV),ys[i]? =some y->Conc B m.av w M0 y (us i)
 |_,_,.nil,us,_=>⟨rfl,fun i y hi=>by simp at hi⟩
 |_,_,.cons (x:=x) (y:=y) (xs:=r) (ys:=s) hb hs,us,hc=>by
  obtain⟨a1,a2⟩:=Brds.sound h hs (fun i=>us (i+1)) (fun i z hi=>hc (i+1) z (by simpa using hi))
  refine⟨by simp[a1],fun i z hi=> ?_⟩
  cases i with
  |zero=>simp at hi;subst hi;exact Brd.sound h hb (us 0) (hc 0 x (by simp))
  |succ i=>exact a2 i z (by simpa using hi)
end
variable {args args':List AV}{K:AV->ZE->Prop}
theorem PureCall.lendD {f:FuncId}{r:AV}(h:PureCall P B f args' r){σ:ZE}(hb:Brds σ args args')(hr:r.lits){b:Box K}(hK:K r σ):ACall P B f args σ (hold K b):=by
 refine⟨h.1,fun m w vs hs hv=> ?_⟩
 obtain⟨a1,a2⟩:=hb.sound hs (fun i=>vs.getD i undef) hv.2
 refine(h.2.2 m.av w vs ⟨hs.avlt,hs.tb.w⟩ ⟨by rw[hv.1,a1],a2⟩).mono ?_
 rintro e w' ⟨u,rfl,hc,hbl⟩
 refine⟨u,r,σ,m,rfl,hK,hs.below hbl,?_,Fr.ofBelow hbl⟩
 exact hc.lits hr _ _
theorem FCall.go1D {f:FuncId}{r:AV}(h:FCall P B f args' r){σ:ZE}(hb:Brds σ args args')(hn:(ZAF r).length=1){b:Box K}(hK:∀h1:Value,ZBX h1->K (ZFR r [h1]) (σ++Zi (ZAF r) [h1])):ACall P B f args σ (hold K b):=by
 refine h.goS (fun _ _ us hs hv=>hb.sound hs us hv) fun hs hl ho=> ?_
 rw[hn]at hl
 match hs,hl with
 | [h1],_=>exact hK h1 (ho _ (by simp))
end
end Go.Vl
