/- Part. -/
import Derived.Test.YtodkbabdaoeooaaGreatDoorVlTab
import Derived.Test.YtodkbabdaoeooaaGreatDoorVlSwap
import Derived.Shelf.Strings.Builder1
set_option linter.all false
open Nat renaming le_refl->zA,zero_add->zB,mul_one->zC
open List renaming getElem?_eq_some_iff->zD,length->zE,getElem?_set_ne->zF,length_append->zG,getElem?_set_self->zH,map->zI,eq_nil_of_length_eq_zero->zJ,length_nil->zK,length_pos_iff->zL,getElem?_map->zM,ext_getElem?->zN,map_append->zO,map_cons->zP
open Option.some renaming inj->zQ,injEq->zR
open Array renaming getElem?_eq_some_iff->zS,getElem?_modify->zT,getD->zU,ext->zV
open UInt8 renaming ofNat->zW
namespace Go.Vl
open Go Go.Proofs Go.Shelf Go.RowKit
open Go.Builtin renaming zeroCells->zX,append_->zY,lenOf->zZ
open Go.Lib renaming strCells->yA,byteCells->yB,cell_of_heap->yC,run_append_grow_string->yD,run_firstCells_string->yE,strCells_length->yF
open Go.Value renaming int->yG
open Go.World renaming freeze->yH,setCell->yI
section
variable {P : Program}
def OwnV (E:TypeId)(w:World)(v:Value)(bs:List Value):Prop:=(∃a,v=.slice a 0 0/\bs=[])∨
 (bs≠[]/\∃g cap cur,v=.slice (some ⟨g,0,none⟩) bs.length cap/\w.heap[g]? =some (.cells cur E (0,0))/\bs.length<=cap/\cap<=cur.size/\∀(j:Nat) x,bs[j]? =some x->cur[j]? =some x)
def AppStr (E:TypeId)(w w':World)(v v':Value)(bs new:List Value):Prop:=w'.tape=w.tape/\w'.os=w.os/\w'.output=w.output/\w.heap.size<=w'.heap.size/\
 ((v'=v/\bs=[]/\new=[]/\w'.heap=w.heap)∨
 (bs++new≠[]/\∃g cap cur,v'=.slice (some ⟨g,0,none⟩) (bs.length+new.length) cap/\w'.heap[g]? =some (.cells cur E (0,0))/\bs.length+new.length<=cap/\cap<=cur.size/\(∀(j:Nat) x,(bs++new)[j]? =some x->cur[j]? =some x)/\
  (∀k,k<w.heap.size->k≠g->w'.heap[k]? =w.heap[k]?)/\
  ((w.heap.size<=g/\new≠[])∨(bs≠[]/\∃cur0,v=.slice (some ⟨g,0,none⟩) bs.length cap/\w.heap[g]? =some (.cells cur0 E (0,0))/\cur.size=cur0.size))))
theorem ZHv (w:World)(bs new:List Value)(v:Value)(c:Nat)(e:TypeId)(z:Array Value)(hc:bs.length+new.length<=c)(hz:z.size=c- (bs.length+new.length))(hne:new≠[]):
  AppStr e w (w.drew.alloc (.cells (bs.toArray++new.toArray++z) e)) v (.slice (some ⟨w.heap.size,0,none⟩) (bs.length+new.length) c) bs new:=by
 refine⟨rfl,rfl,rfl,by show w.heap.size<=(w.heap.push _).size;simp,.inr ⟨by simp[hne],w.heap.size,c,_,rfl,ZAq w.drew _,hc,by simp;omega,fun j x hx=> ?_,fun k hk _=>ZBZ w.drew _ hk,.inl ⟨zA _,hne⟩⟩⟩
 have hj:j<(bs++new).length:=(zD.1 hx).1
 have e1:bs.toArray++new.toArray=(bs++new).toArray:=by simp
 rw[e1,Array.getElem?_append_left (by simpa using hj)]
 simpa using hx
theorem ZIy {w:World}{t u ty e:TypeId}{i:TypeInfo}(ht:P.underlying t=some (.slice e))(hu:P.underlying u=some .string)(hi:P.info? e=some i)(hz:i.zero=some (.int .u8 0))(hsize:i.size=1)(hby:i.bytes=1)
  {v:Value} {bs:List Value} (s:ByteArray) (hv:OwnV e w v bs) (hlen:bs.length+s.size<=140737488355328):
  ∃v' w',(zY #[t,u] ty #[v,.string s]).run P w=.ok v' w'/\AppStr e w w' v v' bs (yA s):=by
 have hsl:=yF s
 have zc:∀n,(zX (yG .u8 0).cells n).size=n:=fun n=>by
  have h1:(yG IntKind.u8 0).cells.size=1:=rfl
  rw[ZBn,h1];omega
 rcases hv with⟨a,rfl,rfl⟩|⟨hbn,g,cap,cur,rfl,hg,hbc,hcs,hcells⟩
 ·by_cases hm:s.size=0
  ·have hn:yA s=[]:=zJ (by rw[hsl];exact hm)
   refine⟨.slice a 0 0,w,?_,rfl,rfl,rfl,zA _,.inl ⟨rfl,rfl,hn,rfl⟩⟩
   have hf:=yE (P:=P) w 1 s
   rw[hm]at hf
   cases a<;>simp[zY,run_underlying ht,run_underlying hu,sizeOf,typeInfo,hi,hsize,zZ,hm,hf,hn,storeCells]
  ·have hne:yA s≠[]:=fun h=>hm (by rw[←hsl,h];rfl)
   cases a with
   |none=>
    have hr:=run_append_nil_string (P:=P) w t u ty e i (.int .u8 0) ht hu hi hz s (by omega) (by simp at hlen;omega) (by rw[hby];simp at hlen;omega)
    have e1:(s.data.map fun b=>yG .u8 b.toNat)=(yA s).toArray:=by
     apply Array.ext'
     simp[yA]
    rw[e1]at hr
    have hge:=grownCap_ge w s.size 0 e
    have:=ZHv w [] (yA s) (.slice none 0 0) (grownCap w s.size 0 e) e (zX (yG .u8 0).cells (grownCap w s.size 0 e-s.size)) (by simpa[hsl]using hge) (by rw[zc];simp[hsl]) hne
    simp only[zK,zB,hsl,Array.empty_append]at this
    exact⟨_,_,hr,this⟩
   |some b=>
    have hr:=yD (P:=P) w t u ty e i (.int .u8 0) ht hu hi hz b 0 0 [] (by simp) (by simp) s (by omega) (by simp at hlen;omega) (by rw[hby];exact growslice_fits (by omega) (by simp at hlen;omega))
    have hge:=grownCap_ge w (0+s.size) 0 e
    have:=ZHv w [] (yA s) (.slice (some b) 0 0) (grownCap w (0+s.size) 0 e) e (zX (yG .u8 0).cells (grownCap w (0+s.size) 0 e- (0+s.size))) (by simpa[hsl]using hge) (by rw[zc];simp[hsl]) hne
    simp only[zK,hsl]at this
    exact⟨_,_,hr,this⟩
 ·by_cases hroom:bs.length+s.size<=cap
  ·have hf:=yE (P:=P) w 1 s
   have hst:=ZAU (P:=P) g e bs.length (yA s) w cur 0 hg (Lib.strCells_oneCell s) (by rw[hsl];omega)
   simp only[Nat.add_zero]at hst
   refine⟨.slice (some ⟨g,0,none⟩) (bs.length+s.size) cap,Zz w g (wrArr cur bs.length (yA s)) e,?_,rfl,rfl,rfl,by rw[ZDf];exact zA _,.inr ⟨by simp[hbn],g,cap,_,by rw[hsl],ZAR hg,by rw[hsl];exact hroom,by rw[Zi];exact hcs,fun j x hx=> ?_,fun k hk hne=>ZAE hne,.inr ⟨hbn,cur,rfl,hg,Zi ..⟩⟩⟩
   ·simp[zY,run_underlying ht,run_underlying hu,sizeOf,typeInfo,hi,hsize,zZ,hroom,hf,Addr.add_lit,hst]
   ·rw[ZAj _ _ _ _ (by rw[hsl];omega)]
    by_cases hj:j<bs.length
    ·rw[iN (by omega)]
     rw[List.getElem?_append_left hj]at hx
     exact hcells j x hx
    ·rw[List.getElem?_append_right (by omega)]at hx
     have:=(zD.1 hx).1
     rw[iP (by omega)]
     exact hx
  ·have hne:yA s≠[]:=fun h=>by
    have:s.size=0:=by rw[←hsl,h];rfl
    omega
   have holds:∀j u,bs[j]? =some u->w.cell? ((⟨g,0,none⟩:Addr).add j)=some u:=fun j u hj=>by
    have:=yC hg j
    rw[Addr.add_lit,zB,this];exact hcells j u hj
   have hr:=yD (P:=P) w t u ty e i (.int .u8 0) ht hu hi hz ⟨g,0,none⟩ bs.length cap bs (by rw[hsize];omega) holds s (by omega) (by omega) (by rw[hby];exact growslice_fits (by omega) (by omega))
   have hge:=grownCap_ge w (bs.length+s.size) cap e
   have:=ZHv w bs (yA s) (.slice (some ⟨g,0,none⟩) bs.length cap) (grownCap w (bs.length+s.size) cap e) e (zX (yG .u8 0).cells (grownCap w (bs.length+s.size) cap e- (bs.length+s.size))) (by rw[hsl];exact hge) (by rw[zc,hsl]) hne
   rw[hsl]at this
   exact⟨_,_,hr,this⟩
def Else (b:Nat)(w w':World):Prop:=w'.tape=w.tape/\w'.os=w.os/\w'.output=w.output/\w'.heap.size=w.heap.size/\∀k,k≠b->w'.heap[k]? =w.heap[k]?
theorem Else.set (b i:Nat)(u:Value)(w:World):Else b w (w.setCell ⟨b,i,none⟩ u):=⟨rfl,rfl,rfl,by simp[yI],fun k hk=>heap_setCell_other w _ k u hk⟩
theorem OwnV.else {E b:Nat}{w w':World}{v:Value}{bs:List Value}(h:OwnV E w v bs)(he:Else b w w')(hne:bs≠[]->∀n c,v≠.slice (some ⟨b,0,none⟩) n c):OwnV E w' v bs:=by
 rcases h with h|⟨hb,g,cap,cur,h1,h2,h3⟩
 ·exact .inl h
 ·exact .inr ⟨hb,g,cap,cur,h1,by rw[he.2.2.2.2 g fun e=>hne hb _ _ (by rw[h1,e])];exact h2,h3⟩
theorem ZEy {ops:Array Oper}{rest:List Oper}{o:Oper}{a:Act}{w:World}{Q:Exit->Act->World->Prop}(hgd:o.guard=none)(sl x:Operand)(t u:TypeId)
  (ho:o.op=.call {callee:=.builtin .append,args:=#[sl,x],argTypes:=#[t,u]}) {e:TypeId} {i:TypeInfo} (ht:P.underlying t=some (.slice e)) (hu:P.underlying u=some .string) (hi:P.info? e=some i) (hz:i.zero=some (.int .u8 0))
  (hsize:i.size=1) (hby:i.bytes=1) {v:Value} {bs:List Value} (hs:a.eval sl=v) (s:ByteArray) (hx:a.eval x=.string s) (hv:OwnV e w v bs) (hlen:bs.length+s.size<=140737488355328)
  (h:∀v' w',AppStr e w w' v v' bs (yA s)->wpList P ops Q rest (a.put o.dst v') w'):wpList P ops Q (o::rest) a w:=by
 refine wpList_plain hgd fun K hK=> ?_
 obtain⟨v',w',hr,h2⟩:=ZIy (ty:=o.type) ht hu hi hz hsize hby s hv hlen
 unfold Oper.wp execOp
 simp only[ho,resolve,invoke,builtin,Sem.run_bind,Sem.run_pure,Result.andThen_ok,List.map_toArray,zP,List.map_nil,hs,hx,hr]
 exact hK _ _ (h v' w' h2)
variable {ρ : Ren}
def ZRg (P:Program)(T E:TypeId)(f:FuncId):Prop:=∀(b:Nat) (p v:Value) (bs:List Value) (s:ByteArray) (w:World),w.heap[b]? =some (.cells #[p,v] T (0,0))->(p=.pointer none∨p=.pointer (some ⟨b,0,none⟩))->OwnV E w v bs->
 (bs≠[]->∀n c,v≠.slice (some ⟨b,0,none⟩) n c)->bs.length+s.size<=140737488355328->
 Calls P f #[.pointer (some ⟨b,0,none⟩),.string s] w fun e w'=>e=.returned (.tuple #[.int .i64 s.size,.nilIface])/\
  ∃v' w0 w1,Else b w w0/\w0.heap[b]? =some (.cells #[.pointer (some ⟨b,0,none⟩),v] T (0,0))/\AppStr E w0 w1 v v' bs (yA s)/\w'=w1.setCell ⟨b,1,none⟩ v'
theorem AppStr.form {E:TypeId}{w w0 w':World}{v v':Value}{bs new:List Value}(h:AppStr E w w' v v' bs new)(hv:OwnV E w0 v bs):∃ao n' cap,v'=.slice ao n' cap:=by
 obtain⟨_,_,_,_,h⟩:=h
 rcases h with⟨h,_⟩|⟨_,g,cap,cur,h1,_⟩
 ·rcases hv with⟨a,h',_⟩|⟨_,g,cap,cur,h',_⟩
  ·exact⟨_,_,_,h.trans h'⟩
  ·exact⟨_,_,_,h.trans h'⟩
 ·exact⟨_,_,_,h1⟩
variable {B nb N : Nat}
theorem ZCY {bs:List Value}:(bs.map fun x=>[AV.lit x]).length=bs.length:=by simp
theorem ZFG {m:Map}{σ:ZE}{w:World}{l2 E:Nat}{bs:List Value}{v:Value}(h:Sim B m σ w)(hl:σ[l2]? =some (.telems (some E) 1 (bs.map fun x=>[.lit x])))(hv:Conc B (Av m) w m (.own l2 bs.length) v):
  OwnV E w v bs/\(bs≠[]->∃g cap,v=.slice (some ⟨g,0,none⟩) bs.length cap/\m.f l2=.arr g 1 bs.length):=by
 have hb:=h.blk l2
 rw[hl]at hb
 obtain⟨_,_,hb⟩:=hb
 rw[ZCY]at hb
 rcases hb with⟨h1,h2⟩|⟨g,ccs,⟨t,ht⟩,h1,h2,h3,h4⟩
 ·have hn:bs=[]:=by simpa using h2
  subst hn
  refine⟨.inl ?_,fun h=>absurd rfl h⟩
  simp only[zK]at hv
  cases hv with
  |ownOther _ _ a cap hl' hk hc=>have:=hk 0 (by rw[h1];rfl);omega
  |ownNil _ a hl' hk=>exact⟨a,rfl,rfl⟩
  |ownArr _ b sz len cap ccs ty hl' hk=>rw[h1]at hk;cases hk
 ·obtain rfl:t=E:=ht E rfl
  generalize hnn:bs.length=nn at hv
  cases hv with
  |ownOther _ _ a cap hl' hk hc=>have:=hk bs.length (by rw[h1];rfl);omega
  |ownNil _ a hl' hk=>rw[h1]at hk;cases hk
  |ownArr _ b sz len cap ccs2 ty hl' hk hh hcap hlen hz=>
   rw[h1]at hk;injection hk with k1 k2 k3
   subst k1 k2
   rw[h2]at hh;obtain⟨rfl,rfl,_⟩:=Obj.cells.inj (zQ hh)
   by_cases hbs:bs=[]
   ·subst hbs
    simp only[zK]at hnn
    subst hnn
    obtain rfl:cap=0:=by rcases hz rfl with h|h;exact h;exact absurd rfl h
    exact⟨.inl ⟨_,rfl,rfl⟩,fun h=>absurd rfl h⟩
   ·subst hnn
    refine⟨.inr ⟨hbs,g,cap,ccs,rfl,h2,hlen,by omega,fun j x hx=> ?_⟩,fun _=>⟨g,cap,rfl,h1⟩⟩
    obtain⟨y,hy,hc⟩:=h4 j [.lit x] 0 (.lit x) (by rw[zM,hx];rfl) rfl
    rw[Conc.lit_inv hc,zC]at hy
    exact hy
theorem AppStr.others {E b:Nat}{w w':World}{v v':Value}{bs new:List Value}(h:AppStr E w w' v v' bs new)(hne:bs≠[]->∀n c,v≠.slice (some ⟨b,0,none⟩) n c)(hb:b<w.heap.size):w'.heap[b]? =w.heap[b]? :=by
 obtain⟨_,_,_,_,h⟩:=h
 rcases h with⟨_,_,_,h⟩|⟨_,g,cap,cur,h1,h2,h3,h4,h5,h6,h7⟩
 ·rw[h]
 ·refine h6 b hb ?_
  rintro rfl
  rcases h7 with⟨h7,_⟩|⟨hbn,cur0,h7,_⟩
  ·omega
  ·exact hne hbn _ _ h7
theorem ZOu {m:Map}{σ:ZE}{w w':World}{l2 E:Nat}{bs new:List Value}{v v':Value}(h:Sim B m σ w)(hl:σ[l2]? =some (.telems (some E) 1 (bs.map fun x=>[.lit x])))(hv:Conc B (Av m) w m (.own l2 bs.length) v)
  (ha:AppStr E w w' v v' bs new) (hB:bs.length+new.length<=bd B):
  ∃m',Fr m w m' w'/\Sim B m' (σ.set l2 (.telems (some E) 1 ((bs++new).map fun x=>[.lit x]))) w'/\Conc B (Av m') w' m' (.own l2 (bs++new).length) v'/\∀k,k≠l2->m'.f k=m.f k:=by
 have hlt:l2<σ.length:=(zD.1 hl).1
 obtain⟨_,hview⟩:=ZFG h hl hv
 have hb:=h.blk l2
 rw[hl]at hb
 obtain⟨hb1,hb2,hb3⟩:=hb
 rw[ZCY]at hb2 hb3
 obtain⟨t1,t2,t3,hsz,hcase⟩:=ha
 rcases hcase with⟨rfl,rfl,rfl,hheap⟩|⟨hne,g,cap,cur,rfl,hg,hcap,hcs,hcells,hoth,hkind⟩
 ·have hset:σ.set l2 (.telems (some E) 1 (([]++[]:List Value).map fun x=>[.lit x]))=σ:=by
   apply zN
   intro j
   by_cases hj:l2=j
   ·subst hj;rw[zH hlt,hl];rfl
   ·rw[zF hj]
  have hf:Fr m w m w':=⟨hsz,fun b _ _=>by rw[hheap],fun b ccs ty _ _ hh=>⟨ccs,by rw[hheap];exact hh,rfl⟩,fun b hb=>.inl hb,fun _ _=>.inl rfl,zA _,rfl,t1,t2,t3⟩
  refine⟨m,hf,?_,hv.mono hf,fun _ _=>rfl⟩
  rw[hset]
  refine h.upd hf σ.length h.n (fun l _=>⟨rfl,rfl⟩) (fun l b _ _=>by rw[hheap]) ?_ ?_
  ·rw[List.getElem?_eq_none (zA _),h.dead_of_ge (zA _)];rfl
  ·intro l b _ _ hb;rw[h.dead_of_ge (zA _)]at hb;simp[MS.has]at hb
 ·have hnl:0<bs.length+new.length:=by rw[←zG];exact zL.2 hne
  have hsame:(w.heap.size<=g/\new≠[])∨(m.f l2=.arr g 1 bs.length/\∃cur0,w.heap[g]? =some (.cells cur0 E (0,0))/\cur.size=cur0.size):=by
   rcases hkind with hk|⟨hbn,cur0,hk,hk2,hk3⟩
   ·exact .inl hk
   ·obtain⟨g',cap',e1,e2⟩:=hview hbn
    rw[hk]at e1
    injection e1 with e1 _ _
    injection e1 with e1
    injection e1 with e1
    subst e1
    exact .inr ⟨e2,cur0,hk2,hk3⟩
  have hle:(m.f l2).le (.arr g 1 (bs.length+new.length)):=by
   rcases hb3 with⟨h1,h2⟩|⟨g0,ccs,ty,h1,_⟩
   ·have:bs=[]:=by simpa using h2
    subst this
    rw[h1];exact .inr (.inr (.inl ⟨0,_,rfl,rfl,by simpa using hnl⟩))
   ·by_cases hn:new=[]
    ·subst hn
     rcases hsame with⟨_,hk⟩|⟨hk,_⟩
     ·exact absurd rfl hk
     ·rw[hk];exact .inl (by simp)
    ·rw[h1];exact .inr (.inr (.inl ⟨_,_,rfl,rfl,by have:=zL.2 hn;omega⟩))
  have hgw:g<w.heap.size->(m.f l2).has g:=fun hlt=>by
   rcases hsame with⟨hk,_⟩|⟨hk,_⟩
   ·omega
   ·rw[hk];rfl
  have hf:Fr m w (m.setS l2 (.arr g 1 (bs.length+new.length))) w':=by
   refine⟨hsz,fun k hk hn=>hoth k hk fun e=>hn ⟨l2,by subst e;exact hgw hk⟩,fun k ccs ty hw hw2 hh=> ?_,fun k hk=> ?_,fun l hlm=> ?_,zA _,rfl,t1,t2,t3⟩
   ·have hklt:k<w.heap.size:=(zS.1 hh).1
    by_cases e:k=g
    ·subst e
     rcases hsame with⟨hk,_⟩|⟨_,cur0,hk1,hk2⟩
     ·omega
     ·rw[hk1]at hh;obtain⟨rfl,rfl,_⟩:=Obj.cells.inj (zQ hh)
      exact⟨cur,hg,hk2⟩
    ·exact⟨ccs,by rw[hoth k hklt e,hh],rfl⟩
   ·obtain⟨l,hl'⟩:=hk
    by_cases e:l=l2
    ·subst e
     rw[Map.setS_same]at hl'
     have hkg:g=k:=hl'
     subst hkg
     rcases Nat.lt_or_ge g w.heap.size with q|q
     ·exact .inl ⟨l,hgw q⟩
     ·exact .inr q
    ·rw[Map.setS_other m l2 _ e]at hl';exact .inl ⟨l,hl'⟩
   ·by_cases e:l=l2
    ·subst e;rw[Map.setS_same];exact hle
    ·rw[Map.setS_other m l2 _ e];exact .inl rfl
  refine⟨_,hf,?_,?_,fun k hk=>Map.setS_other m l2 _ hk⟩
  ·refine h.upd hf l2 (by simp[Map.setS,h.n]) (fun j hj=>⟨by rw[zF (Ne.symm hj)],Map.setS_other m l2 _ hj⟩) (fun j b' hj hb'=> ?_) ?_ ?_
   ·exact hoth b' (h.lt_of_blk hb') fun e=>hj (h.inj j l2 b' hb' (by subst e;exact hgw (h.lt_of_blk hb')))
   ·rw[zH hlt,Map.setS_same]
    refine⟨fun e he=> ?_,by rw[ZCY,zG];exact hB,.inr ⟨g,cur,⟨E,fun T hT=>zQ hT⟩,by rw[ZCY,zG],hg,by rw[ZCY,zG];omega,fun i e k x hi hk=> ?_⟩⟩
    ·obtain⟨z,_,rfl⟩:=List.mem_map.1 he;rfl
    ·rw[zM]at hi
     obtain⟨z,hz,rfl⟩:=Option.map_eq_some_iff.1 hi
     match k,hk with
     |0,hk=>
      simp at hk;subst hk
      exact⟨z,by rw[zC];exact hcells i z hz,.lit z⟩
     |k+1,hk=>simp at hk
   ·intro j b' hj hb' hb''
    rw[Map.setS_same]at hb''
    have e:g=b':=hb''
    subst e
    exact hj (h.inj j l2 g hb' (hgw (h.lt_of_blk hb')))
  ·rw[zG]
   exact .ownArr l2 g 1 _ cap cur E (by simpa[Map.setS,h.n]using hlt) (Map.setS_same _ _ _) hg (by omega) hcap (fun h=>by omega)
theorem ZNB {m:Map}{σ:ZE}{w w':World}{l b T:Nat}{cs cs':List AV}{ccs':Array Value}(h:Sim B m σ w)(hl:σ[l]? =some (.tcells (some T) cs))(hb:m.f l=.box b)(he:Else b w w')(hh:w'.heap[b]? =some (.cells ccs' T (0,0)))
  (hlen:cs'.length=cs.length) (hsz:ccs'.size=cs'.length) (hp:ZQk b ccs') (hc:∀(i:Nat) (x:AV),cs'[i]? =some x->∃y:Value,ccs'[i]? =some y/\Conc B (Av m) w m x y):Fr m w m w'/\Sim B m (σ.set l (.tcells (some T) cs')) w':=by
 have hlt:l<σ.length:=(zD.1 hl).1
 have hbl:=h.blk l
 rw[hl]at hbl
 obtain⟨b',ccs,⟨t,ht⟩,g1,g2,g3,g4⟩:=hbl
 rw[hb]at g1;injection g1 with g1;subst g1
 obtain⟨rfl,_⟩:=ht T rfl
 have hwb:(m.f l).has b:=by rw[hb];rfl
 have hf:Fr m w m w':=by
  refine⟨by rw[he.2.2.2.1];exact zA _,fun k _ hn=>he.2.2.2.2 k fun e=>hn ⟨l,by subst e;exact hwb⟩,fun k c ty _ _ hk=> ?_,fun _ hk=>.inl hk,fun _ _=>.inl rfl,zA _,rfl,he.1,he.2.1,he.2.2.1⟩
  by_cases e:k=b
  ·subst e
   rw[g2]at hk;obtain⟨rfl,rfl,_⟩:=Obj.cells.inj (zQ hk)
   exact⟨ccs',hh,by omega⟩
  ·exact⟨c,by rw[he.2.2.2.2 k e,hk],rfl⟩
 refine⟨hf,h.upd hf l (by simpa using h.n) (fun j hj=>⟨by rw[zF (Ne.symm hj)],rfl⟩) (fun j b' hj hb'=>he.2.2.2.2 b' fun e=>hj (h.inj j l b' hb' (by subst e;exact hwb))) ?_ ?_⟩
 ·rw[zH hlt,hb]
  refine⟨b,ccs',⟨t,fun T hT=>⟨zQ hT,hp⟩⟩,rfl,hh,hsz,fun i x hi=> ?_⟩
  obtain⟨y,hy,hxy⟩:=hc i x hi
  exact⟨y,hy,hxy.mono hf⟩
 ·intro j b' hj hb' hb''
  exact hj (h.inj j l b' hb' hb'')
theorem ZFc (xs:List Int):zI cU xs=(xs.map (yG .u8)).map fun x=>[AV.lit x]:=by simp[cU,Function.comp_def]
theorem ZEV (s:ByteArray):yA s=(Zh s).map (yG .u8):=by simp[yA,Zh,Function.comp_def]
theorem ZId {m:Map}{σ:ZE}{w:World}{l l2 T E:Nat}{xs:List Int}(hs:Sim B m σ w)(hl:σ[l]? =some (.tcells (some T) [.junk,.own l2 (zE (α:=Int) xs)]))(h2:σ[l2]? =some (.telems (some E) 1 (zI cU xs))):
  ∃b p v,m.f l=.box b/\w.heap[b]? =some (.cells #[p,v] T (0,0))/\(p=.pointer none∨p=.pointer (some ⟨b,0,none⟩))/\(∀a,v=.slice a 0 0->a=none)/\Conc B (Av m) w m (.own l2 (xs.map (yG .u8)).length) v/\
   OwnV E w v (xs.map (yG .u8))/\(xs.map (yG .u8)≠[]->∀n c,v≠.slice (some ⟨b,0,none⟩) n c):=by
 have hbl:=hs.blk l
 rw[hl]at hbl
 obtain⟨b,ccs,⟨t,ht⟩,g1,g2,g3,g4⟩:=hbl
 obtain⟨rfl,hp,hp2⟩:=ht T rfl
 obtain⟨p,v,rfl⟩:∃p v,ccs=#[p,v]:=⟨ccs[0]'(by simp at g3;omega),ccs[1]'(by simp at g3;omega),by
  apply zV
  ·simpa using g3
  ·intro i h1 h2
   have h2':i<2:=by simpa using h2
   match i,h2' with
   |0,_=>rfl
   |1,_=>rfl⟩
 obtain⟨y,hy,hc⟩:=g4 1 _ rfl
 obtain rfl:v=y:=by simpa using hy
 rw[ZFc]at h2
 have hc':Conc B (Av m) w m (.own l2 (xs.map (yG .u8)).length) v:=by simpa using hc
 obtain⟨ho,hview⟩:=ZFG hs h2 hc'
 refine⟨b,p,v,g1,g2,by simpa using hp,fun a ha=>hp2 a (by simp[ha]),hc',ho,fun hne n c e=> ?_⟩
 obtain⟨g,cap,e1,e2⟩:=hview hne
 rw[e1]at e
 injection e with e _ _
 injection e with e
 injection e with e
 subst e
 have:=hs.inj l l2 g (by rw[g1];rfl) (by rw[e2];rfl)
 subst this
 rw[hl]at h2;cases h2
theorem ZKH {m:Map}{σ:ZE}{w:World}{l b:Nat}{v:Value}(g:m.f l=.box b)(h:Conc B (Av m) w m (.ptr l 0) v):v=.pointer (some ⟨b,0,none⟩):=by
 cases h with
 |ptrOther _ _ _ _ hne=>exact absurd g (hne b)
 |ptrBox _ _ b' _ hb'=>rw[g]at hb';injection hb' with hb';rw[hb']
theorem ACall.bldW {T E:TypeId}{f:FuncId}(hw:ZRg P T E f)(he:Ent P f){σ:ZE}{s:ByteArray}{K:AV->ZE->Prop}{k:Box K}(l l2:Nat){xs:List Int}
  (hl:σ[l]? =some (.tcells (some T) [.junk,.own l2 (zE (α:=Int) xs)])) (h2:σ[l2]? =some (.telems (some E) 1 (zI cU xs))) (hlen:xs.length+s.size<=1073741824) (hB:1073741824<=bd B)
  (hK:K (.lit (.tuple #[.int .i64 s.size,.nilIface])) ((σ.set l2 (.telems (some E) 1 (zI cU (xs++Zh s)))).set l (.tcells (some T) [.junk,.own l2 (zE (α:=Int) (xs++Zh s))]))):
  ACall P B f [.ptr l 0,.lit (.string s)] σ (hold K k):=by
 refine⟨he,fun m w vs hs hv=> ?_⟩
 obtain⟨b,p,v,g1,g2,hp,hnil,hc,ho,hne⟩:=ZId hs hl h2
 have e0:=ZKH (σ:=σ) g1 (hv.2 0 _ rfl)
 have e1:=Conc.lit_inv (hv.2 1 _ rfl)
 have e:vs=#[.pointer (some ⟨b,0,none⟩),.string s]:=by
  have hsz:vs.size=2:=by simpa using hv.1
  apply zV
  ·simpa using hsz
  ·intro i h1 h2
   have h2':i<2:=by simpa using h2
   match i,h2' with
   |0,_=>simpa[zU,h1]using e0
   |1,_=>simpa[zU,h1]using e1
 subst e
 have hll:l≠l2:=by
  rintro rfl
  rw[hl]at h2;cases h2
 refine(hw b p v _ s w g2 hp ho hne (by simp;omega)).mono ?_
 rintro _ _ ⟨rfl,v',w0,w1,he0,hb0,hap,rfl⟩
 have hlt:b<w.heap.size:=(hs.mapOk b ⟨l,by rw[g1];rfl⟩).1
 obtain⟨hf1,hs1⟩:=ZNB (cs':=[.junk,.own l2 (zE (α:=Int) xs)]) hs hl g1 he0 hb0 rfl rfl ⟨.inr rfl,fun a ha=>hnil a (by simpa using ha)⟩ (fun i x hi=>by
  match i,hi with
  |0,hi=>simp at hi;subst hi;exact⟨_,rfl,.junk _⟩
  |1,hi=>simp at hi;subst hi;exact⟨_,rfl,by simpa using hc⟩
  |i+2,hi=>simp at hi)
 have hset:σ.set l (.tcells (some T) [.junk,.own l2 (zE (α:=Int) xs)])=σ:=by
  apply zN
  intro j
  by_cases hj:l=j
  ·subst hj;rw[zH (zD.1 hl).1,hl]
  ·rw[zF hj]
 rw[hset]at hs1
 have h2':=h2
 rw[ZFc]at h2'
 obtain⟨m',hf2,hs2,hc2,hm2⟩:=ZOu hs1 h2' (hc.mono hf1) hap (by rw[yF];simp;omega)
 have hes:(xs.map (yG .u8)++yA s).map (fun x=>[AV.lit x])=zI cU (xs++Zh s):=by rw[ZFc,ZEV,←zO]
 have hel:(xs.map (yG .u8)++yA s).length=(xs++Zh s).length:=by rw[ZEV,←zO,List.length_map]
 rw[hes]at hs2
 rw[hel]at hc2
 have hb1:w1.heap[b]? =some (.cells #[.pointer (some ⟨b,0,none⟩),v] T (0,0)):=by rw[hap.others hne (by rw[he0.2.2.2.1];exact hlt),hb0]
 have hw':(w1.setCell ⟨b,1,none⟩ v').heap[b]? =some (.cells #[.pointer (some ⟨b,0,none⟩),v'] T (0,0)):=by simp[yI,zT,hb1]
 obtain⟨hf3,hs3⟩:=ZNB (cs:=[.junk,.own l2 (zE (α:=Int) xs)]) (cs':=[.junk,.own l2 (zE (α:=Int) (xs++Zh s))]) hs2 (by rw[zF (Ne.symm hll)];exact hl) (by rw[hm2 l hll];exact g1) (Else.set b 1 v' w1) hw' rfl rfl
  ⟨.inr rfl,fun a ha=>by
   have ha:v'=.slice a 0 0:=by simpa using ha
   obtain⟨_,_,_,_,hcase⟩:=hap
   rcases hcase with⟨q,_⟩|⟨hne2,g,cap,cur,q,_⟩
   ·exact hnil a (by rw[←q,ha])
   ·rw[q]at ha
    injection ha with _ ha _
    rw[←zG]at ha
    exact absurd (zJ ha) hne2⟩ (fun i x hi=>by
  match i,hi with
  |0,hi=>simp at hi;subst hi;exact⟨_,rfl,.junk _⟩
  |1,hi=>simp only[List.getElem?_cons_succ,List.getElem?_cons_zero,zR]at hi;subst hi;exact⟨_,rfl,hc2⟩
  |i+2,hi=>simp at hi)
 exact⟨_,_,_,m',rfl,hK,hs3,.lit _,(hf1.trans hf2 hs.mapOk).trans hf3 hs.mapOk⟩
theorem ZGG (w:World)(g n:Nat){k:Nat}(h:k≠g):(w.freeze ⟨g,0,none⟩ n).heap[k]? =w.heap[k]? :=by
 unfold yH
 split
 ·rfl
 ·simp only[zT]
  rw[iN (Ne.symm h)]
theorem ZHU (w:World)(g n:Nat):(w.freeze ⟨g,0,none⟩ n).heap.size=w.heap.size:=by
 unfold yH
 split
 ·rfl
 ·simp
theorem ZHV (w:World)(g n:Nat):(w.freeze ⟨g,0,none⟩ n).tape=w.tape/\(w.freeze ⟨g,0,none⟩ n).os=w.os/\(w.freeze ⟨g,0,none⟩ n).output=w.output:=by
 unfold yH
 split<;>exact⟨rfl,rfl,rfl⟩
def ZM8 (w w':World)(g:Option Nat):Prop:=w'.tape=w.tape/\w'.os=w.os/\w'.output=w.output/\w.heap.size<=w'.heap.size/\∀k,k<w.heap.size->g≠some k->w'.heap[k]? =w.heap[k]?
set_option maxHeartbeats 2000000 in
set_option maxRecDepth 100000 in
theorem ZJk (L:Lays.n169 P ρ)(X:Builder.Extra P ρ){b g cap:Nat}{p:Value}{cur:Array Value}{l:List UInt8}{w:World}(hbk:w.heap[b]? =some (.cells #[p,.slice (some ⟨g,0,none⟩) l.length cap] (ρ.t 72) (0,0)))(h0:l≠[])
  (hg:w.heap[g]? =some (.cells cur (ρ.t 5) (0,0))) (hnc:l.length<=cap) (hcs:cap<=cur.size) (h63:l.length<=9223372036854775807) (hcells:∀(j:Nat) x,(yB l)[j]? =some x->cur[j]? =some x):
  Calls P (ρ.f 169) #[.pointer (some ⟨b,0,none⟩)] w fun e w'=>e=.returned (.string ⟨l.toArray⟩)/\ZM8 w w' (some g):=by
 have hl0:l.length≠0:=by simpa using h0
 have c1:w.drew.cell? ⟨b,1,none⟩=some (.slice (some ⟨g,0,none⟩) l.length cap):=by
  have:w.drew.heap[b]? =some (.cells #[p,.slice (some ⟨g,0,none⟩) l.length cap] (ρ.t 72) (0,0)):=hbk
  rw[yC this];rfl
 have hSD:(Builtin.unsafeSliceData_ #[(ρ.t 37)] (ρ.t 127) #[.slice (some ⟨g,0,none⟩) l.length cap]).run P w.drew=.ok (.pointer (some ⟨g,0,none⟩)) w.drew:=
  Lib.run_unsafeSliceData_row _ _ _ _ _ _ (by omega)
 have hUS:(Builtin.unsafeString_ #[(ρ.t 127),(ρ.t 3)] (ρ.t 9) #[.pointer (some ⟨g,0,none⟩),.int .i64 l.length]).run P w.drew=.ok (.string ⟨l.toArray⟩) (w.drew.freeze ⟨g,0,none⟩ l.length):=by
  have hg':w.drew.heap[g]? =some (.cells cur (ρ.t 5) (0,0)):=hg
  refine Lib.run_unsafeString_row w.drew (ρ.t 127) (ρ.t 3) (ρ.t 9) (ρ.t 5) L.t127 X.cellsByte g cur.size (by simp[World.shape?,hg']) l h0 (by omega) (by omega) ?_
  intro j x hx
  have:=hcells j (.int .u8 x.toNat) (by simp[yB,hx])
  rw[Addr.add_lit,zB,yC hg' j]
  exact this
 have mixed:=L.mixed
 have t72:=L.t72;have a72:=L.a72;have z72:=L.z72;have v72:=L.v72;have u72:=run_underlying L.t72
 have t70:=L.t70;have a70:=L.a70;have z70:=L.z70;have v70:=L.v70;have u70:=run_underlying L.t70
 have t37:=L.t37;have a37:=L.a37;have z37:=L.z37;have v37:=L.v37;have u37:=run_underlying L.t37
 have t127:=L.t127;have a127:=L.a127;have z127:=L.z127;have v127:=L.v127;have u127:=run_underlying L.t127
 have t3:=L.t3;have a3:=L.a3;have z3:=L.z3;have v3:=L.v3;have u3:=run_underlying L.t3
 have t9:=L.t9;have a9:=L.a9;have z9:=L.z9;have v9:=L.v9;have u9:=run_underlying L.t9
 have t5:=X.t5;have a5:=X.a5;have z5:=X.z5;have v5:=X.v5;have u5:=run_underlying X.t5
 have fin:ZM8 w (w.drew.freeze ⟨g,0,none⟩ l.length) (some g):=by
  obtain⟨f1,f2,f3⟩:=ZHV w.drew g l.length
  exact⟨f1,f2,f3,by rw[ZHU];exact zA _,fun k _ hk=>ZGG w.drew g _ fun e=>hk (by rw[e])⟩
 have fin2:ZM8 w (w.drew.freeze ⟨g,0,none⟩ l.length).drew (some g):=fin
 go_enter L.f169,Body.n169_ntmps ρ
 go_wp2
 go_region_o
 all_goals(go_wp2;go_ret;exact⟨rfl,fin⟩)
theorem ZKY :∀{xs:List Int},okB xs->∃l:List UInt8,xs.map (yG .u8)=yB l/\ZDE xs=⟨l.toArray⟩/\l.length=xs.length:=by
 have key:∀(xs:List Int) (r:ByteArray),okB xs->∃l:List UInt8,xs.map (yG .u8)=yB l/\xs.foldl (fun r n=>r.push (zW n.toNat)) r=⟨r.data++l.toArray⟩/\l.length=xs.length:=by
  intro xs
  induction xs with
  |nil=>intro r _;exact⟨[],rfl,by simp,rfl⟩
  |cons x xs ih=>
   intro r h
   obtain⟨h1,h2⟩:=h x (List.mem_cons_self ..)
   obtain⟨l,e1,e2,e3⟩:=ih (r.push (zW x.toNat)) fun y hy=>h y (List.mem_cons_of_mem _ hy)
   refine⟨zW x.toNat::l,?_,?_,by simp[e3]⟩
   ·simp only[zP,yB]at e1 ⊢
    rw[e1]
    congr 2
    have:(zW x.toNat).toNat=x.toNat:=by simp[UInt8.toNat_ofNat];omega
    rw[this];omega
   ·rw[List.foldl_cons,e2]
    simp[ByteArray.push]
 intro xs h
 obtain⟨l,e1,e2,e3⟩:=key xs ByteArray.empty h
 exact⟨l,e1,by unfold ZDE;rw[e2];simp,e3⟩
theorem ACall.bldS0 (L:Lays.n169 P ρ)(X:Builder.Extra P ρ)(he:Ent P (ρ.f 169)){σ:ZE}{K:AV->ZE->Prop}{k:Box K}(l l2:Nat){xs:List Int}
  (hl:σ[l]? =some (.tcells (some (ρ.t 72)) [.junk,.own l2 (zE (α:=Int) xs)])) (h2:σ[l2]? =some (.telems (some (ρ.t 5)) 1 (zI cU xs))) (hok:okB xs) (hlen:xs.length<=1073741824)
  (hK:K (.lit (.string (ZDE xs))) (σ.set l2 .dead)):ACall P B (ρ.f 169) [.ptr l 0] σ (hold K k):=by
 refine⟨he,fun m w vs hs hv=> ?_⟩
 obtain⟨b,p,v,g1,g2,hp,hnil,hc,ho,hne⟩:=ZId hs hl h2
 have e0:=ZKH (σ:=σ) g1 (hv.2 0 _ rfl)
 have e:vs=#[.pointer (some ⟨b,0,none⟩)]:=by
  have hsz:vs.size=1:=by simpa using hv.1
  apply zV
  ·simpa using hsz
  ·intro i h1 h2
   have h2':i<1:=by simpa using h2
   match i,h2' with
   |0,_=>simpa[zU,h1]using e0
 subst e
 obtain⟨bl,q1,q2,q3⟩:=ZKY hok
 have hlt2:l2<σ.length:=(zD.1 h2).1
 -- behind the call
 have fin:∀(w':World) (g:Option Nat),ZM8 w w' g->(∀k,g=some k->(m.f l2).has k)->Fr m w (m.kill l2) w'/\Sim B (m.kill l2) (σ.set l2 .dead) w':=by
  intro w' g ⟨f1,f2,f3,f4,f5⟩ hg
  have hf:Fr m w (m.kill l2) w':=by
   refine⟨f4,fun k hk hn=>f5 k hk fun e=>hn ⟨l2,hg k e⟩,fun k ccs ty _ hw2 hh=>⟨ccs,?_,rfl⟩,fun k hk=>(Fr.kill m w l2).fresh k hk,(Fr.kill m w l2).ids,zA _,rfl,f1,f2,f3⟩
   rw[f5 k (zS.1 hh).1 ?_,hh]
   intro e
   obtain⟨j,hj⟩:=hw2
   by_cases ej:j=l2
   ·subst ej;simp[Map.kill,MS.has]at hj
   ·simp only[Map.kill,ej,if_false]at hj
    exact ej (hs.inj j l2 k hj (hg k e))
  refine⟨hf,hs.upd hf l2 (by simp[Map.kill,hs.n]) (fun j hj=>⟨by rw[zF (Ne.symm hj)],by simp[Map.kill,hj]⟩) (fun j b' hj hb'=>f5 b' (hs.lt_of_blk hb') fun e=>hj (hs.inj j l2 b' hb' (hg b' e))) ?_ ?_⟩
  ·rw[zH hlt2];simp[Map.kill,BlkSim]
  ·intro j b _ _ hb;simp[Map.kill,MS.has]at hb
 by_cases hx:xs=[]
 ·subst hx
  have hbl:bl=[]:=zJ q3
  subst hbl
  obtain⟨a,rfl⟩:∃a,v=.slice a 0 0:=by
   rcases ho with⟨a,h,_⟩|⟨h,_⟩
   ·exact⟨a,h⟩
   ·exact absurd rfl h
  obtain rfl:=hnil a rfl
  refine(Any.Builder_String_nil L X w.heap.size b p w g2).mono ?_
  rintro _ w' ⟨rfl,hbelow⟩
  obtain⟨hf,hs'⟩:=fin w' none ⟨hbelow.tape,hbelow.os,hbelow.output,hbelow.size,fun k hk _=>hbelow.block k hk⟩ (fun _ h=>nomatch h)
  refine⟨_,_,_,_,rfl,hK,hs',?_,hf⟩
  rw[q2];exact .lit _
 ·have hbn:xs.map (yG .u8)≠[]:=by simpa using hx
  have h2':=h2
  rw[ZFc]at h2'
  obtain⟨_,hview⟩:=ZFG hs h2' hc
  obtain⟨g,cap,rfl,hmf⟩:=hview hbn
  rcases ho with⟨a,e,e'⟩|⟨_,g',cap',cur,e,hg,hcap,hcs,hcells⟩
  ·exact absurd e' hbn
  ·injection e with e e2 e3
   injection e with e
   injection e with e
   subst e e3
   have hn:(xs.map (yG .u8)).length=bl.length:=by rw[q1,Lib.byteCells_length]
   rw[hn]at g2 hcap
   refine(ZJk L X g2 (by rintro rfl;rw[q1]at hbn;exact hbn rfl) hg hcap hcs (by omega) (by rw[←q1];exact hcells)).mono ?_
   rintro _ w' ⟨rfl,hfr⟩
   obtain⟨hf,hs'⟩:=fin w' (some g) hfr (fun k hk=>by rw[hmf];exact zQ hk)
   refine⟨_,_,_,_,rfl,hK,hs',?_,hf⟩
   rw[q2];exact .lit _
variable {f T E : Nat}
theorem ECallA.bldW (hw:ZRg P T E f)(he:Ent P f){σ:ZE}{s:ByteArray}{K:AV->ZE->Prop}{k:Box K}(l l2:Nat){xs:List Int}
  (hl:σ[l]? =some (.tcells (some T) [.junk,.own l2 (zE (α:=Int) xs)])) (h2:σ[l2]? =some (.telems (some E) 1 (zI cU xs))) (hlen:xs.length+s.size<=1073741824) (hB:1073741824<=bd B)
  (hK:K (.lit (.tuple #[.int .i64 s.size,.nilIface])) ((σ.set l2 (.telems (some E) 1 (zI cU (xs++Zh s)))).set l (.tcells (some T) [.junk,.own l2 (zE (α:=Int) (xs++Zh s))]))):
  ECallA P B f [.ptr l 0,.lit (.string s)] σ (hold K k):=⟨_,_,fun K' hK'=>ACall.bldW (k:=(.mk:Box K')) hw he l l2 hl h2 hlen hB hK',hK⟩
theorem ACall.bldS (L:Lays.n169 P ρ)(X:Builder.Extra P ρ)(hf:ρ.f 169=f)(hT:ρ.t 72=T)(hE:ρ.t 5=E)(he:Ent P f){σ:ZE}{K:AV->ZE->Prop}{k:Box K}(l l2:Nat){xs:List Int}
  (hl:σ[l]? =some (.tcells (some T) [.junk,.own l2 (zE (α:=Int) xs)])) (h2:σ[l2]? =some (.telems (some E) 1 (zI cU xs))) (hok:okB xs) (hlen:xs.length<=1073741824)
  (hK:K (.lit (.string (ZDE xs))) (σ.set l2 .dead)):ACall P B f [.ptr l 0] σ (hold K k):=by
 subst hf hT hE
 exact ACall.bldS0 L X he l l2 hl h2 hok hlen hK
theorem ECallA.bldS (L:Lays.n169 P ρ)(X:Builder.Extra P ρ)(hf:ρ.f 169=f)(hT:ρ.t 72=T)(hE:ρ.t 5=E)(he:Ent P f){σ:ZE}{K:AV->ZE->Prop}{k:Box K}(l l2:Nat){xs:List Int}
  (hl:σ[l]? =some (.tcells (some T) [.junk,.own l2 (zE (α:=Int) xs)])) (h2:σ[l2]? =some (.telems (some E) 1 (zI cU xs))) (hok:okB xs) (hlen:xs.length<=1073741824)
  (hK:K (.lit (.string (ZDE xs))) (σ.set l2 .dead)):ECallA P B f [.ptr l 0] σ (hold K k):=⟨_,_,fun K' hK'=>ACall.bldS (k:=(.mk:Box K')) L X hf hT hE he l l2 hl h2 hok hlen hK',hK⟩
end
end Go.Vl
