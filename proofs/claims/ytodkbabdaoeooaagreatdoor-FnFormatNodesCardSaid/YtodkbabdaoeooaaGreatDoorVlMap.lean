/- Part. -/
import Derived.Test.YtodkbabdaoeooaaGreatDoorVlMut
import Derived.MapKept
set_option linter.all false
open Nat renaming lt_of_lt_of_le->zA,le_trans->zB
open List renaming range'->zC,map_cons->zD
namespace Go.Vl
open Go Go.RowKit
open Go.Instr renaming findNow->zE,sameNow->zF,keyThatStays->zG,mapUpdate->zH
open Go.Sem renaming run_bind->zI,run_pure->zJ
open Go.Result renaming andThen->zK
open Conc renaming lit_inv->zL
open Go.Region renaming wanted->zM
abbrev Ms :=List (Nat×List ByteArray)
def ZNM (P:Program)(t:TypeId):Bool:=match P.underlying t with
 |some (.map k e)=>(match P.underlying k with|some .string=>true|_=>false)&& (match P.info? e with|some ti=>(match ti.zero with|some (.bool false)=>true|_=>false)|none=>false)
 |_=>false
theorem ZF5 {P:Program}{t:TypeId}(h:ZNM P t=true):∃k e,P.underlying t=some (.map k e)/\P.underlying k=some .string/\∀w,(zeroValue e).run P w=.ok (.bool false) w:=by
 unfold ZNM at h
 split at h
 ·next k e hu=>
  simp only[Bool.and_eq_true]at h
  obtain⟨h1,h2⟩:=h
  refine⟨k,e,hu,?_,fun w=> ?_⟩
  ·grind
  ·split at h2
   ·next ti hi=>
    split at h2
    ·next hz=>simp[zeroValue,typeInfo,hi,hz]
    ·cases h2
   ·cases h2
 ·cases h
def ZBS (es:List MapEntry)(ks:List ByteArray):Prop:=es.map (fun e=>(e.key,e.val))=ks.map fun k=>(Value.string k,Value.bool true)
def MOk (w00:World)(ms:Ms)(m:Map)(w:World):Prop:=
 (∀p,p∈ms->w00.heap.size<=p.1/\p.1<w.heap.size/\m.av p.1/\∃es clock,w.heap[p.1]? =some (.map es clock)/\ZBS es.toList p.2)/\(ms.map (·.1)).Nodup
structure MSim (B N:Nat)(w00:World)(ms:Ms)(st:ASt)(m:Map)(a:Act)(w:World):Prop where
 sim:Sim B m st.σ w
 fr:FrSim B m w N st.fr a.tmps
 df:a.defers=[]
 below:Below w00.heap.size w00 w
 young:∀b,Wr m b->w00.heap.size<=b
 mok:MOk w00 ms m w
section
variable {P : Program} {B N : Nat} {w00 : World}
theorem MSim.toA {ms:Ms}{st:ASt}{m:Map}{a:Act}{w:World}(h:MSim B N w00 ms st m a w):ASim B st.σ.length N m w st m a w:=
 ⟨h.sim,h.fr,h.df,Fr.refl m w,h.sim.n,h.sim.mapOk⟩
theorem MSim.step {ms:Ms}{st st':ASt}{m m':Map}{a a':Act}{w w':World}(h:MSim B N w00 ms st m a w){nb:Nat}(h':ASim B nb N m w st' m' a' w'):MSim B N w00 ms st' m' a' w':=by
 have hf:=h'.step
 refine⟨h'.sim,h'.fr,h'.df,⟨hf.os.trans h.below.os,hf.tape.trans h.below.tape,hf.output.trans h.below.output,zB h.below.size hf.size,fun k hk=> ?_⟩,fun b hb=> ?_,fun p hp=> ?_,h.mok.2⟩
 ·rw[hf.keep k (zA hk h.below.size) fun hw=>by have:=h.young k hw;omega,h.below.block k hk]
 ·rcases hf.fresh b hb with hw|hw
  ·exact h.young b hw
  ·exact zB h.below.size hw
 ·obtain⟨h1,h2,h3,es,clock,h4,h5⟩:=h.mok.1 p hp
  refine⟨h1,zA h2 hf.size,by rw[hf.av];exact h3,es,clock,?_,h5⟩
  rw[hf.keep p.1 h2 fun hw=>h.sim.sep p.1 hw h3,h4]
theorem MSim.ghost {ms:Ms}{st st':ASt}{m:Map}{a:Act}{w:World}(h:MSim B N w00 ms st m a w)(hg:Gh B 0 N st st'):∃m',MSim B N w00 ms st' m' a w:=by
 let m0:Map:=⟨fun _=>.dead,0,m.av⟩
 have hno:∀b,¬Wr m0 b:=by rintro b ⟨l,hl⟩;simp[m0,MS.has]at hl
 have h0:ASim B 0 N m0 w00 st m a w:=⟨h.sim,h.fr,h.df,⟨h.below.size,fun b hb _=>h.below.block b hb,fun b _ _ hb=>absurd hb (hno b),fun b hb=>.inr (h.young b hb),fun l hl=>absurd hl (Nat.not_lt_zero _),Nat.zero_le _,rfl,h.below.tape,h.below.os,h.below.output⟩,rfl,fun b hb=>absurd hb (hno b)⟩
 obtain⟨m',h'⟩:=hg m0 w00 m a w h0
 refine⟨m',h'.sim,h'.fr,h'.df,h.below,fun b hb=>(h'.step.fresh b hb).resolve_left (hno b),fun p hp=> ?_,h.mok.2⟩
 obtain⟨h1,h2,h3,h4⟩:=h.mok.1 p hp
 exact⟨h1,h2,by rw[h'.step.av];exact h3,h4⟩
theorem Conc.amid {m m':Map}{w w':World}(hs:w.heap.size<=w'.heap.size)(hk:∀b,b<w.heap.size->¬Av m b->w'.heap[b]? =w.heap[b]?)(hwr:∀b,Wr m b->w'.heap[b]? =w.heap[b]?)(hm:m'.f=m.f)(hn:m'.n=m.n)(hav:∀b,b<w.heap.size->Av m' b->Av m b)
  {x:AV} {y:Value} (h:Conc B (Av m) w m x y):Conc B (Av m') w' m' x y:=by
 refine h.mono' hs hk hav m' (fun l _=>.inl (by rw[hm])) (by omega) ?_
 intro l b sz len ccs ty hl hf _ hh
 exact⟨ccs,by rw[hwr b ⟨l,by rw[hf];rfl⟩,hh],rfl⟩
theorem Sim.amid {σ:ZE}{m m':Map}{w w':World}(h:Sim B m σ w)(hs:w.heap.size<=w'.heap.size)(hk:∀b,b<w.heap.size->¬Av m b->w'.heap[b]? =w.heap[b]?)(hwr:∀b,Wr m b->w'.heap[b]? =w.heap[b]?)(hm:m'.f=m.f)(hn:m'.n=m.n)(hav:∀b,b<w.heap.size->Av m' b->Av m b)
  (hsep:∀b,Wr m b->¬m'.av b) (hlt:∀b,m'.av b->b<w'.heap.size) (htb:TbOk B m' w'):Sim B m' σ w' where
 n:=by rw[hn,h.n]
 blk l:=by
  have hb:=h.blk l
  rw[hm]
  cases hσ:σ[l]? with
  |none=>rw[hσ]at hb;exact hb
  |some k=>
   rw[hσ]at hb
   cases k with
   |dead=>exact hb
   |pack xs vs=>
    obtain⟨F,g1,g2,g3⟩:=hb
    exact⟨F,g1,g2,g3.keep fun b hb=>hwr b ⟨l,by rw[g1];exact hb⟩⟩
   |tcells ot cs=>
    obtain⟨b,ccs,ty,g1,g2,g3,g4⟩:=hb
    refine⟨b,ccs,ty,g1,by rw[hwr b ⟨l,by rw[g1];rfl⟩,g2],g3,fun i x hx=> ?_⟩
    obtain⟨y,hy,hc⟩:=g4 i x hx
    exact⟨y,hy,hc.amid hs hk hwr hm hn hav⟩
   |telems oe sz es=>
    obtain⟨g0,g0',hb⟩:=hb
    refine⟨g0,g0',?_⟩
    rcases hb with hb|⟨b,ccs,ty,g1,g2,g3,g4⟩
    ·exact .inl hb
    ·refine .inr ⟨b,ccs,ty,g1,by rw[hwr b ⟨l,by rw[g1];rfl⟩,g2],g3,fun i e k x hi hk'=> ?_⟩
     obtain⟨y,hy,hc⟩:=g4 i e k x hi hk'
     exact⟨y,hy,hc.amid hs hk hwr hm hn hav⟩
 inj l l' b h1 h2:=h.inj l l' b (by rw[←hm];exact h1) (by rw[←hm];exact h2)
 sep b hb:=hsep b (by obtain⟨l,hl⟩:=hb;exact⟨l,by rw[←hm];exact hl⟩)
 avlt:=hlt
 tb:=htb
theorem MSim.make {ms:Ms}{st:ASt}{m:Map}{a:Act}{w:World}(h:MSim B N w00 ms st m a w):MSim B N w00 (ms++[(w.heap.size,[])]) st {m with av:=fun b=>m.av b∨b=w.heap.size} a (w.alloc (.map #[] 0)):=by
 have ha:=Go.MapKept.heap_alloc w (.map #[] 0)
 have hsz:(w.alloc (.map #[] 0)).heap.size=w.heap.size+1:=by show(w.heap.push _).size=_;simp
 have hwlt:∀b,Wr m b->b<w.heap.size:=fun b hb=>(h.sim.mapOk b hb).1
 have hkeep:∀b,b<w.heap.size->¬Av m b->(w.alloc (.map #[] 0)).heap[b]? =w.heap[b]? :=fun b hb _=>ha.2 b hb
 have hwr:∀b,Wr m b->(w.alloc (.map #[] 0)).heap[b]? =w.heap[b]? :=fun b hb=>ha.2 b (hwlt b hb)
 have hav:∀b,b<w.heap.size->Av {m with av:=fun b=>m.av b∨b=w.heap.size} b->Av m b:=by
  intro b hb hx
  rcases hx with hx|hx|hx
  ·exact .inl hx
  ·exact .inr hx
  ·omega
 refine⟨h.sim.amid (by omega) hkeep hwr rfl rfl hav (fun b hb hx=> ?_) (fun b hx=> ?_) (fun g hg=>by
  obtain⟨a1,a2,ccs,ty,fz,a3,a4⟩:=h.sim.tb g hg
  exact⟨fun hw=>a1 hw,by omega,ccs,ty,fz,(ha.2 g a2).trans a3,a4⟩),⟨h.fr.1,fun i=>(h.fr.2 i).amid (m':={m with av:=fun b=>m.av b∨b=w.heap.size}) (by omega) hkeep hwr rfl rfl hav⟩,h.df,⟨h.below.os,h.below.tape,h.below.output,by have:=h.below.size;omega,fun k hk=> ?_⟩,h.young,fun p hp=> ?_,?_⟩
 ·rcases hx with hx|hx
  ·exact h.sim.sep b hb hx
  ·have:=hwlt b hb;omega
 ·rcases hx with hx|hx
  ·have:=h.sim.avlt b hx;omega
  ·omega
 ·rw[ha.2 k (zA hk h.below.size),h.below.block k hk]
 ·rcases List.mem_append.1 hp with hp|hp
  ·obtain⟨h1,h2,h3,es,clock,h4,h5⟩:=h.mok.1 p hp
   grind
  ·simp at hp;subst hp
   exact⟨h.below.size,by omega,.inr rfl,#[],0,ha.1,rfl⟩
 ·rw[List.map_append,List.nodup_append]
  refine⟨h.mok.2,by simp,fun x hx y hy=> ?_⟩
  simp at hy;subst hy
  obtain⟨p,hp,rfl⟩:=List.mem_map.1 hx
  have:=(h.mok.1 p hp).2.1
  omega
def ZEJ (ms:Ms)(b:Nat):Option (List ByteArray):=match ms with
 | []=>none
 |(c,ks)::r=>if c=b then some ks else ZEJ r b
def ZEI (ms:Ms)(b:Nat)(k:List ByteArray):Ms:=match ms with
 | []=>[]
 |(c,ks)::r=>if c=b then(c,k)::r else(c,ks)::ZEI r b k
theorem ZDr :∀{ms:Ms} {b:Nat} {ks:List ByteArray},ZEJ ms b=some ks->(b,ks)∈ms
 |(c,k)::r,b,ks,h=>by
  unfold ZEJ at h
  split at h
  ·grind
  ·exact List.mem_cons_of_mem _ (ZDr h)
 | [],_,_,h=>by cases h
theorem ZEd :∀(ms:Ms) (b:Nat) (k:List ByteArray),(ZEI ms b k).map (·.1)=ms.map (·.1)
 | [],_,_=>rfl
 |(c,ks)::r,b,k=>by
  unfold ZEI
  split
  ·rfl
  ·simp[ZEd r b k]
theorem ZF3 :∀{ms:Ms} {b:Nat} {k:List ByteArray} {p:Nat×List ByteArray},p∈ZEI ms b k->(ms.map (·.1)).Nodup->(p=(b,k)/\∃ks,(b,ks)∈ms)∨(p∈ms/\p.1≠b)
 |(c,ks)::r,b,k,p,h,hn=>by
  unfold ZEI at h
  simp only[zD,List.nodup_cons]at hn
  split at h
  ·grind
  ·next e=>
   rcases List.mem_cons.1 h with rfl|h
   ·exact .inr ⟨by simp,e⟩
   ·rcases ZF3 h hn.2 with⟨h1,q,h2⟩|⟨h1,h2⟩
    ·grind
    ·grind
 | [],_,_,_,h,_=>by cases h
theorem ZBR {s:ByteArray}:∀(es:List MapEntry) (ks:List ByteArray) (i:Nat),ZBS es ks->
  (s∈ks/\∃j e,zE .string (.string s) es i=some (some (j,.bool true))/\i<=j/\es[j-i]? =some e/\e.key=.string s/\e.val=.bool true)∨(s∉ks/\zE .string (.string s) es i=some none)
 | [],[],i,_=>.inr ⟨by simp,rfl⟩
 |e::es,k::ks,i,h=>by
  simp only[ZBS,zD,List.cons.injEq,Prod.mk.injEq]at h
  obtain⟨⟨h1,h2⟩,h3⟩:=h
  by_cases hk:s=k
  ·subst hk
   refine .inl ⟨by simp,i,e,?_,Nat.le_refl _,by simp,h1,h2⟩
   simp[zE,h1,h2,zF,ZLK]
  ·have hne:(s==k)=false:=by rw[ZLK];simpa using hk
   rcases ZBR (s:=s) es ks (i+1) h3 with⟨m1,j,e',m2,m3,m4,m5⟩|⟨m1,m2⟩
   ·refine .inl ⟨by simp[m1],j,e',?_,by omega,?_,m5⟩
    ·simp[zE,h1,zF,hne,m2]
    ·grind
   ·refine .inr ⟨by simp[m1,hk],?_⟩
    simp[zE,h1,zF,hne,m2]
 | [],_::_,_,h=>by simp[ZBS]at h
 |_::_,[],_,h=>by simp[ZBS]at h
theorem ZIx {t:TypeId}(ht:ZNM P t=true){w:World}{b clock:Nat}{es:Array MapEntry}{ks:List ByteArray}(hb:w.heap[b]? =some (.map es clock))(he:ZBS es.toList ks)(s:ByteArray):
  (Instr.lookup t (.map (some b)) (.string s) false).run P w=.ok (.bool (dec (s∈ks))) w:=by
 obtain⟨k,e,h1,h2,h3⟩:=ZF5 ht
 unfold Instr.lookup
 simp only[zI,run_underlying h1,zK,Go.MapKept.run_getObj_map hb,zJ]
 rw[Go.MapKept.run_checkKey (n:=9999) h2 (by simp[Go.MapKept.IsKey])]
 simp only
 rcases ZBR (s:=s) es.toList ks 0 he with⟨m1,j,e',m2,_⟩|⟨m1,m2⟩
 ·rw[Go.MapKept.run_findKey h2 m2,ZI m1]
  simp[zJ]
 ·rw[Go.MapKept.run_findKey h2 m2,ZG m1]
  simp[h3]
noncomputable def ZJM (ks:List ByteArray)(s:ByteArray):List ByteArray:=if dec (s∈ks)=true then ks else ks++[s]
theorem ZIw {t:TypeId}(ht:ZNM P t=true){w:World}{b clock:Nat}{es:Array MapEntry}{ks:List ByteArray}(hb:w.heap[b]? =some (.map es clock))(he:ZBS es.toList ks)(s:ByteArray):
  ∃es' clock',(zH t (.map (some b)) (.string s) (.bool true)).run P w=.ok () {w with heap:=w.heap.setIfInBounds b (.map es' clock')}/\ZBS es'.toList (ZJM ks s):=by
 obtain⟨k,e,h1,h2,h3⟩:=ZF5 ht
 unfold zH
 simp only[zI,run_underlying h1,zK,Go.MapKept.run_getObj_map hb]
 rw[Go.MapKept.run_checkKey (n:=9999) h2 (by simp[Go.MapKept.IsKey])]
 simp only
 rcases ZBR (s:=s) es.toList ks 0 he with⟨m1,j,e',m2,_,m3,m4,m5⟩|⟨m1,m2⟩
 ·rw[Go.MapKept.run_findKey h2 m2]
  have m3':es[j]? =some e':=by simpa using m3
  have hk:(zG (.string s) (.string s)).run P w=.ok (.string s) w:=by
   unfold zG
   simp[Instr.sameBits,ZLK]
  simp only[zI,m3',Option.map_some,Option.getD_some,m4,hk,zK,Go.MapKept.run_setObj_map _ hb]
  refine⟨_,_,rfl,?_⟩
  unfold ZJM
  rw[iP (ZI m1)]
  unfold ZBS at he ⊢
  rw[←he,Array.toList_modify]
  apply List.ext_getElem?
  grind
 ·rw[Go.MapKept.run_findKey h2 m2]
  simp only[Go.MapKept.run_setObj_map _ hb]
  refine⟨_,_,rfl,?_⟩
  unfold ZJM
  rw[iN (by rw[ZG m1];simp)]
  unfold ZBS at he ⊢
  simp[he]
theorem MSim.upd {ms:Ms}{st:ASt}{m:Map}{a:Act}{w:World}(h:MSim B N w00 ms st m a w){b:Nat}{ks ks':List ByteArray}(hg:(b,ks)∈ms){es:Array MapEntry}{clock:Nat}(he:ZBS es.toList ks'):
  MSim B N w00 (ZEI ms b ks') st m a {w with heap:=w.heap.setIfInBounds b (.map es clock)}:=by
 obtain⟨h1,h2,h3,es0,c0,h4,h5⟩:=h.mok.1 _ hg
 have hs:=Go.MapKept.heap_set (o':=.map es clock) h4
 have hsz:(w.heap.setIfInBounds b (.map es clock)).size=w.heap.size:=by simp
 have hkeep:∀x,x<w.heap.size->¬Av m x->(w.heap.setIfInBounds b (.map es clock))[x]? =w.heap[x]? :=fun x _ hx=>hs.2 x fun e=>hx (by subst e;exact .inr h3)
 have hwr:∀x,Wr m x->(w.heap.setIfInBounds b (.map es clock))[x]? =w.heap[x]? :=fun x hx=>hs.2 x fun e=>h.sim.sep x hx (by subst e;exact h3)
 have htb:TbOk B m {w with heap:=w.heap.setIfInBounds b (.map es clock)}:=by
  intro g hg
  obtain⟨a1,a2,ccs,ty,fz,a3,a4⟩:=h.sim.tb g hg
  grind
 refine⟨h.sim.amid (w':={w with heap:=w.heap.setIfInBounds b (.map es clock)}) (by show _<=(w.heap.setIfInBounds b (.map es clock)).size;omega) hkeep hwr rfl rfl (fun _ _ h=>h) h.sim.sep (fun x hx=>by show x<(w.heap.setIfInBounds b (.map es clock)).size;have:=h.sim.avlt x hx;omega) htb,
  ⟨h.fr.1,fun i=>(h.fr.2 i).amid (m':=m) (w':={w with heap:=w.heap.setIfInBounds b (.map es clock)}) (by show _<=(w.heap.setIfInBounds b (.map es clock)).size;omega) hkeep hwr rfl rfl (fun _ _ h=>h)⟩,h.df,
  ⟨h.below.os,h.below.tape,h.below.output,by have:=h.below.size;show _<=(w.heap.setIfInBounds b (.map es clock)).size;omega,fun k hk=> ?_⟩,h.young,fun p hp=> ?_,by rw[ZEd];exact h.mok.2⟩
 ·show(w.heap.setIfInBounds b (.map es clock))[k]? =_
  have:w00.heap.size<=b:=h1
  rw[hs.2 k (by omega),h.below.block k hk]
 ·rcases ZF3 hp h.mok.2 with⟨rfl,_⟩|⟨hm,hne⟩
  ·grind
  ·obtain⟨q1,q2,q3,es1,c1,q4,q5⟩:=h.mok.1 p hm
   grind
def ZHO :Op->Bool
 | .makeMap .. | .lookup .. | .mapUpdate .. =>true
 |_=>false
def ZMn (P:Program)(N:Nat)(o:Oper)(st:ASt)(ms:Ms)(K:ASt->Ms->Prop):Prop:=
 match o.op with
 | .makeMap _ none=>∀b,(∀p,p∈ms->p.1≠b)->ZAL N o.dst (.lit (.map (some b))) st.fr st.σ fun st'=>K st' (ms++[(b,[])])
 | .lookup t x k false=>ZNM P t=true/\match ev st.fr x,ev st.fr k with
  | .lit (.map (some b)),.lit (.string s)=>match ZEJ ms b with
   |some ks=>ZAL N o.dst (.lit (.bool (dec (s∈ks)))) st.fr st.σ fun st'=>K st' ms
   |none=>False
  |_,_=>False
 | .mapUpdate t x k v=>ZNM P t=true/\match ev st.fr x,ev st.fr k,ev st.fr v with
  | .lit (.map (some b)),.lit (.string s),.lit (.bool true)=>match ZEJ ms b with
   |some ks=>ZAL N o.dst (.lit undef) st.fr st.σ fun st'=>K st' (ZEI ms b (ZJM ks s))
   |none=>False
  |_,_,_=>False
 |_=>False
def ZBM (P:Program)(B N:Nat)(ops:Array Oper):List Oper->ASt->Ms->(ASt->Ms->Prop)->Prop
 | [],st,ms,K=>K st ms
 | o :: rest, st, ms, K => if ZHO o.op = true then ZAp ops st.fr o.guard (ZMn P N o st ms fun st' ms' => ZBM P B N ops rest st' ms' K)
    (ZAL N o.dst (.lit undef) st.fr st.σ fun st'=>ZBM P B N ops rest st' ms K)
   else ZAp ops st.fr o.guard (aop P B N o st fun st'=>ZBM P B N ops rest st' ms K)
    (ZAL N o.dst (.lit undef) st.fr st.σ fun st'=>ZBM P B N ops rest st' ms K)
theorem MSim.put {ms:Ms}{st:ASt}{m:Map}{a:Act}{w:World}(h:MSim B N w00 ms st m a w){d:Option Nat}{v:Value}{K:ASt->Prop}(hk:ZAL N d (.lit v) st.fr st.σ K):∃st',K st'/\MSim B N w00 ms st' m (a.put d v) w:=by
 obtain⟨st',h1,h2⟩:=h.toA.next hk h.sim (.lit v) (Fr.refl m w)
 exact⟨st',h1,h.step h2⟩
theorem ZJn {o:Oper}{st:ASt}{ms:Ms}{K:ASt->Ms->Prop}(hk:ZMn P N o st ms K){m:Map}{a:Act}{w:World}(h:MSim B N w00 ms st m a w)
  {next:Act->World->Prop} {Q:Exit->Act->World->Prop} (hn:∀st' ms' m' a' w',K st' ms'->MSim B N w00 ms' st' m' a' w'->next a' w'):o.wp P a w next Q:=by
 unfold ZMn at hk
 split at hk
 ·next t ho=>
  have hfresh:∀p,p∈ms->p.1≠w.heap.size:=fun p hp=>by have:=(h.mok.1 p hp).2.1;omega
  obtain⟨st',h1,h2⟩:=h.make.put (hk w.heap.size hfresh)
  unfold Oper.wp
  have hrun:(execOp a.eval o).run P w=.ok (.value (.map (some w.heap.size))) (w.alloc (.map #[] 0)):=by
   unfold execOp;rw[ho];rfl
  rw[hrun,Oper.upon_value]
  exact hn _ _ _ _ _ h1 h2
 ·next t x k ho=>
  obtain⟨ht,hk⟩:=hk
  split at hk
  ·next b s hx hs=>
   split at hk
   ·next ks hg=>
    have hm:=ZDr hg
    obtain⟨_,_,_,es,clock,h4,h5⟩:=h.mok.1 _ hm
    have r1:=RelO.of h.fr x
    have r2:=RelO.of h.fr k
    rw[hx]at r1;rw[hs]at r2
    have r1:=zL r1
    have r2:=zL r2
    obtain⟨st',q1,q2⟩:=h.put hk
    unfold Oper.wp
    have hrun:(execOp a.eval o).run P w=.ok (.value (.bool (dec (s∈ks)))) w:=by
     unfold execOp;rw[ho]
     simp only[r1,r2]
     simp[ZIx ht h4 h5 s]
    rw[hrun,Oper.upon_value]
    exact hn _ _ _ _ _ q1 q2
   ·exact hk.elim
  ·exact hk.elim
 ·next t x k v ho=>
  obtain⟨ht,hk⟩:=hk
  split at hk
  ·next b s hx hs hv=>
   split at hk
   ·next ks hg=>
    have hm:=ZDr hg
    obtain⟨_,_,_,es,clock,h4,h5⟩:=h.mok.1 _ hm
    have r1:=RelO.of h.fr x
    have r2:=RelO.of h.fr k
    have r3:=RelO.of h.fr v
    rw[hx]at r1;rw[hs]at r2;rw[hv]at r3
    have r1:=zL r1
    have r2:=zL r2
    have r3:=zL r3
    obtain⟨es',clock',hrun,he⟩:=ZIw ht h4 h5 s
    obtain⟨st',q1,q2⟩:=(h.upd (clock:=clock') hm he).put hk
    unfold Oper.wp
    have hrun':(execOp a.eval o).run P w=.ok .skip {w with heap:=w.heap.setIfInBounds b (.map es' clock')}:=by
     unfold execOp;rw[ho]
     simp_all
    rw[hrun',Oper.upon_skip]
    exact hn _ _ _ _ _ q1 q2
   ·exact hk.elim
  ·exact hk.elim
 ·exact hk.elim
theorem ZD9 {ops:Array Oper}{K:ASt->Ms->Prop}{Q:Exit->Act->World->Prop}
  (hn:∀st' ms' m' a' w',K st' ms'->MSim B N w00 ms' st' m' a' w'->Q .normal a' w'):
  ∀(k i:Nat),i+k=ops.size->∀(st:ASt) (ms:Ms) (m:Map) (a:Act) (w:World),ZBM P B N ops (ops.toList.drop i) st ms K->MSim B N w00 ms st m a w->
   wpOps P ops Q (zC i k) a w
 |0,i,hik,st,ms,m,a,w,hk,h=>by
  rw[List.drop_eq_nil_of_le (by rw[Array.length_toList];omega)]at hk
  simp only[List.range'_zero,wpOps]
  exact hn _ _ _ _ _ hk h
 |k+1,i,hik,st,ms,m,a,w,hk,h=>by
  have hi:i<ops.toList.length:=by rw[Array.length_toList];omega
  rw[List.drop_eq_getElem_cons hi]at hk
  have hi':ops[i]? =some ops.toList[i]:=by rw[←Array.getElem?_toList,List.getElem?_eq_getElem hi]
  generalize ops.toList[i]=o at hk hi'
  simp only[List.range'_succ,wpOps,hi']
  have ih:=ZD9 (ops:=ops) hn k (i+1) (by omega)
  have no:ZAL N o.dst (.lit undef) st.fr st.σ (fun st'=>ZBM P B N ops (ops.toList.drop (i+1)) st' ms K)->
    wpOps P ops Q (zC (i+1) k) (a.put o.dst undef) w:=by
   intro hk
   obtain⟨st',hst,hsim⟩:=h.put hk
   grind
  have guarded:∀(yes:Prop) (_:yes->o.wp P a w (wpOps P ops Q (zC (i+1) k)) Q),ZAp ops st.fr o.guard yes (ZAL N o.dst (.lit undef) st.fr st.σ (fun st'=>ZBM P B N ops (ops.toList.drop (i+1)) st' ms K))->
    (if zM o (yielded ops a.tmps)=true then o.wp P a w (wpOps P ops Q (zC (i+1) k)) Q∨(o.asks P a w/\LetsOut Q)else wpOps P ops Q (zC (i+1) k) (a.put o.dst undef) w):=by
   intro yes hyes hk
   unfold ZAp at hk
   split at hk
   ·next hg=>
    rw[iP (by simp[zM,hg])]
    exact .inl (hyes hk)
   ·next j want hg=>
    split at hk
    ·next d hd=>
     split at hk
     ·next v hb=>
      have hv:=h.fr.2 d
      rw[hb]at hv
      have hv:=zL hv
      have hy:=ZBe hd hv
      split at hk
      ·next hbw=>
       rw[iP (by simp[zM,hg,hy,hbw])]
       exact .inl (hyes hk)
      ·next hbw=>
       rw[iN (by simp[zM,hg,hy,hbw])]
       exact no hk
     ·exact hk.elim
    ·exact hk.elim
  simp only[ZBM]at hk
  split at hk
  ·exact guarded _ (fun hk=>ZJn hk h fun st' ms' m' a' w' hk' h'=>ih st' ms' m' a' w' hk' h') hk
  ·exact guarded _ (fun hk=>ZEA hk h.toA fun st' m' a' w' hk' h'=>ih st' ms m' a' w' hk' (h.step h')) hk
def MLoop (P:Program)(B N:Nat)(c:Code)(st:ASt)(ms:Ms)(Q:Exit->ASt->Ms->Prop):Prop:=
 ∀w00 m a w,MSim B N w00 ms st m a w->ZP7 P c (fun e a' w'=>∃st' ms' m',Q e st' ms'/\MSim B N w00 ms' st' m' a' w') a w
def ZBu (P:Program)(B N:Nat):Code->ASt->Ms->(Exit->ASt->Ms->Prop)->Prop
 | .skip,st,ms,Q=>Q .normal st ms
 | .region _ ops draw,st,ms,Q=>if draw=true then ADraw P B st.σ.length N ops st (fun st'=>Q .normal st' ms)else ZBM P B N ops ops.toList st ms (Q .normal)
 | .seq a b,st,ms,Q=>ZBu P B N a st ms fun e st' ms'=>match e with
  | .normal=>ZBu P B N b st' ms' Q
  |e=>Q e st' ms'
 | .cond c a b,st,ms,Q=>match ev st.fr c with
  | .lit (.bool v)=>if v=true then ZBu P B N a st ms Q else ZBu P B N b st ms Q
  |_=>False
 | .block id c,st,ms,Q=>ZBu P B N c st ms fun e st' ms'=>match e with
  | .exit id'=>if id'=id then Q .normal st' ms' else Q (.exit id') st' ms'
  |e=>Q e st' ms'
 | .loop c,st,ms,Q=>MLoop P B N c st ms Q
 | .exit id,st,ms,Q=>Q (.exit id) st ms
 | .ret,st,ms,Q=>Q .ret st ms
 |_,_,_,_=>False
theorem MSim.drew {ms:Ms}{st:ASt}{m:Map}{a:Act}{w:World}(h:MSim B N w00 ms st m a w):MSim B N w00 ms st m a w.drew:=
 ⟨h.sim.drew,h.fr.mono (Fr.drew m w),h.df,⟨h.below.os,h.below.tape,h.below.output,h.below.size,h.below.block⟩,h.young,h.mok⟩
theorem ZAi :∀(c:Code) (st:ASt) (ms:Ms) (Q:Exit->ASt->Ms->Prop),ZBu P B N c st ms Q->∀(m:Map) (a:Act) (w:World),MSim B N w00 ms st m a w->
  c.wp P (fun e a' w'=>∃st' ms' m',Q e st' ms'/\MSim B N w00 ms' st' m' a' w') a w
 | .skip,st,ms,Q,hk,m,a,w,h=>wp_skip ⟨st,ms,m,hk,h⟩
 | .region id ops draw,st,ms,Q,hk,m,a,w,h=>by
  simp only[ZBu]at hk
  cases draw with
  |true=>
   simp only[if_true]at hk
   have h':=h.drew
   exact wp_region_any hk.1 (hk.2 m w.drew m a w.drew h'.toA _ (fun st' m' a' w' hk' hs'=>⟨st',ms,m',hk',h'.step hs'⟩))
  |false=>
   simp only[Bool.false_eq_true,if_false]at hk
   refine wp_region ?_
   rw[List.range_eq_range']
   exact ZD9 (fun st' ms' m' a' w' hk' h'=>⟨st',ms',m',hk',h'⟩) ops.size 0 (by simp) st ms m a w (by simpa using hk) h
 | .seq x y,st,ms,Q,hk,m,a,w,h=>by
  refine wp_seq (wp_mono (ZAi x st ms _ hk m a w h) ?_)
  rintro e a' w' ⟨st',ms',m',hq,hs⟩
  cases e with
  |normal=>exact ZAi y st' ms' Q hq m' a' w' hs
  |_=>exact⟨st',ms',m',hq,hs⟩
 | .cond c x y,st,ms,Q,hk,m,a,w,h=>by
  simp only[ZBu]at hk
  split at hk
  ·next v hv=>
   have hc:=RelO.of h.fr c
   rw[hv]at hc
   have hc:=zL hc
   refine wp_cond hc ?_
   cases v with
   |true=>simp only[if_true]at hk ⊢;exact ZAi x st ms Q hk m a w h
   |false=>simp only[Bool.false_eq_true,if_false]at hk ⊢;exact ZAi y st ms Q hk m a w h
  ·exact hk.elim
 | .block id c,st,ms,Q,hk,m,a,w,h=>by
  refine wp_block (wp_mono (ZAi c st ms _ hk m a w h) ?_)
  rintro e a' w' ⟨st',ms',m',hq,hs⟩
  cases e with
  |exit id'=>
   simp only[Exit.inBlock]
   grind
  |_=>exact⟨st',ms',m',hq,hs⟩
 | .loop c,st,ms,Q,hk,m,a,w,h=>ZGC (hk w00 m a w h)
 | .exit id,st,ms,Q,hk,m,a,w,h=>wp_exit ⟨st,ms,m,hk,h⟩
 | .ret,st,ms,Q,hk,m,a,w,h=>wp_ret ⟨st,ms,m,hk,h⟩
 | .rangeFunc ..,_,_,_,hk,_,_,_,_=>hk.elim
 | .scope ..,_,_,_,hk,_,_,_,_=>hk.elim
 | .label ..,_,_,_,hk,_,_,_,_=>hk.elim
 | .goto ..,_,_,_,hk,_,_,_,_=>hk.elim
 | .refuse ..,_,_,_,hk,_,_,_,_=>hk.elim
def AgainM (P:Program)(B N:Nat)(c:Code)(Q:Exit->ASt->Ms->Prop)(st':ASt)(ms:Ms):Prop:=∃st2,Gh B 0 N st' st2/\MLoop P B N c st2 ms Q
def LeaveM (B N:Nat)(Q:Exit->ASt->Ms->Prop)(e:Exit)(st':ASt)(ms:Ms):Prop:=∃st2,Gh B 0 N st' st2/\Q e st2 ms
def ZFp (P:Program)(B N:Nat)(c:Code)(Q:Exit->ASt->Ms->Prop)(e:Exit)(st':ASt)(ms:Ms):Prop:=
 match e with
 | .normal=>AgainM P B N c Q st' ms
 |e=>LeaveM B N Q e st' ms
theorem MLoop.unroll {c:Code}{st:ASt}{ms:Ms}{Q:Exit->ASt->Ms->Prop}(h:ZBu P B N c st ms (ZFp P B N c Q)):MLoop P B N c st ms Q:=by
 intro w00 m a w hs
 refine ZDu (wp_mono (ZAi c st ms _ h m a w hs) ?_)
 rintro e a' w' ⟨st',ms',m',hq,hs'⟩
 cases e with
 |normal=>
  obtain⟨st2,hg,hl⟩:=hq
  obtain⟨m2,h2⟩:=hs'.ghost hg
  exact hl w00 m2 a' w' h2
 |_=>
  obtain⟨st2,hg,hl⟩:=hq
  obtain⟨m2,h2⟩:=hs'.ghost hg
  exact⟨st2,ms',m2,hl,h2⟩
theorem MLoop.from {c:Code}{st st0:ASt}{ms:Ms}{Q:Exit->ASt->Ms->Prop}(hg:Gh B 0 N st st0)(h:MLoop P B N c st0 ms Q):MLoop P B N c st ms Q:=by
 intro w00 m a w hs
 obtain⟨m1,h1⟩:=hs.ghost hg
 exact h w00 m1 a w h1
end
end Go.Vl
