/- Part. -/
import Derived.Test.YtnockmfobogfpaaGreatVlBrd
import Derived.Test.YtnockmfobogfpaaGreatVlOpn
import Derived.Test.YtnockmfobogfpaaGreatVlSeal
set_option linter.all false
open List renaming replicate->zA
namespace Go.Vl
open Go Go.RowKit
section
variable {P : Program} {B nb N : Nat}
def ZMu (R:AV->ZE->Prop)(r':AV)(σ':ZE):Prop:=∃r τ',R r τ'/\r'.le r/\ZDN σ' τ'
def LeaveD (B nb N:Nat)(Q:Exit->ASt->Prop)(e:Exit)(st:ASt):Prop:=∀m0 w0 m a w,ASim B nb N m0 w0 st m a w->∃st2 m2,ASim B nb N m0 w0 st2 m2 a w/\Q e st2
variable {e:Exit}{Q:Exit->ASt->Prop}
theorem LeaveD.go {st:ASt}{b:Box Q}(st2:ASt)(hg:Gh B nb N st st2)(h:Q e st2):LeaveD B nb N (hold Q b) e st:=fun m0 w0 m a w hs=>by
 obtain⟨m2,h2⟩:=hg m0 w0 m a w hs
 exact⟨st2,m2,h2,h⟩
theorem LeaveD.gh {st:ASt}{b:Box Q}(st2:ASt)(hg:Gh B nb N st st2)(h:LeaveD B nb N (hold Q .mk) e st2):LeaveD B nb N (hold Q b) e st:=fun m0 w0 m a w hs=>by
 obtain⟨m2,h2⟩:=hg m0 w0 m a w hs
 exact h m0 w0 m2 a w h2
variable {σ:ZE}{sz n:Nat}{row:List AV}{es:List (List AV)}
theorem LeaveD.seal {fr:Frm}{bQ:Box Q}(L j la:Nat)(ids:List Nat){sz2:Nat}{R:List (List AV)}{rows2:List (List AV)}{us2:List Go.Value}{zs:List AV}(hL:σ[L]? =some (.elems sz (R++[row])))(hj:row[j]? =some (.own la n))(hla:σ[la]? =some (.elems sz2 rows2))(hcp:CP σ zs us2 ids)(hzs:es.flatten=zs)(hr:rows2.flatten=us2.map .lit)(hn:rows2.length=n)(he:es.length=n)(hsz:∀e,e∈es->e.length=sz2)(hne:L≠la)(hnd:ids.Nodup)(h:∀u,ZBU u->LeaveD B nb N (hold Q .mk) e ⟨fr,ZI4 σ ids la L sz (R++[row.set j (.lit u)]) es u⟩):LeaveD B nb N (hold Q bQ) e ⟨fr,σ⟩:=fun m0 w0 m a w hs=>by
 obtain⟨u,m',h1,h2,h3⟩:=hs.sim.seal L j la ids hL hj hla hcp hzs hr hn he hsz hne hnd
 exact h u h1 m0 w0 m' a w ⟨h2,hs.fr.mono h3,hs.df,hs.step.trans h3 hs.ok,hs.base,hs.ok⟩
theorem LeaveD.sealE {fr:Frm}{bQ:Box Q}(L j la:Nat){sz2:Nat}{R:List (List AV)}(hL:σ[L]? =some (.elems sz (R++[row])))(hj:row[j]? =some (.own la n))(hla:σ[la]? =some (.elems sz2 es))(hr:∃us:List Go.Value,es.flatten=us.map .lit)(he:es.length=n)(hsz:∀e,e∈es->e.length=sz2)(hne:L≠la)(h:∀u,ZBU u->LeaveD B nb N (hold Q .mk) e ⟨fr,ZI4 σ [] la L sz (R++[row.set j (.lit u)]) es u⟩):LeaveD B nb N (hold Q bQ) e ⟨fr,σ⟩:=by
 obtain⟨us,hus⟩:=hr
 exact LeaveD.seal L j la [] hL hj hla (CP.lits us) hus hus he he hsz hne List.nodup_nil h
variable {f:FuncId}{τ:ZE}{args:List AV}{R:AV->ZE->Prop}
theorem DCall.enter {fn:Func}{c:Code}{k:Nat}{st0:ASt}(hf:P.funcs[f]? =some fn)(hn:(fn.name== "runtime.NumGoroutine")=false)(hb:fn.body=some c)(hN:fn.ntmps=N)(hargs:args.length<=N)(hτ:τ.length=n)(h1:Zg τ.length τ)(h2:AV.closed.closeds τ.length args)(h3:∀r τ',R r τ'->r.closed k/\Zg k τ'/\τ'.length=k/\ZAZ τ')(h5:τ.length<=k)(hg:Gh B n N ⟨ZBP 0 args,τ⟩ st0)(h:awp P B n N c st0 (hold (LeaveD B n N (hold (ZID P fn (hold (ZMu R) .mk)) .mk)) .mk)):DCall P B f τ args k R:=by
 refine⟨⟨fn,hf,hn,by rw[hb];rfl⟩,h1,h2,h3,h5,fun m w vs hs hv=>calls_of_wp hf hb ?_⟩
 subst hN hτ
 have hsim0:ASim B τ.length fn.ntmps m w ⟨ZBP 0 args,τ⟩ m ⟨vs++Array.replicate (fn.ntmps-vs.size) undef,[]⟩ w:=
  ⟨hs,ZAJ hv hargs,rfl,Fr.refl m w,hs.n,hs.mapOk⟩
 obtain⟨m1,hsim1⟩:=hg _ _ _ _ _ hsim0
 refine wp_mono (ZY c _ _ h m w m1 _ w hsim1) ?_
 rintro e a' w' ⟨st1,m0',hL,hs0⟩
 obtain⟨st',m',hs',hq⟩:=hL _ _ _ _ _ hs0
 have fin:∀(hq:ZBZ P st'.σ st'.fr fn.results.toList fun xs=>ZMu R (pack xs) st'.σ),
   a'.defers=[]/\∃v,(results fn a'.tmps).run P w'=.ok v w'/\∃u m'' σ' r τ',Ending.returned v=.returned u/\R r τ'/\ZDN σ' τ'/\Sim B m'' σ' w'/\Conc B (Av m'') w' m'' r u/\Fr m w m'' w':=by
  intro hq
  obtain⟨xs,u,⟨r,τ',hR,hle,hst⟩,hrun,hc⟩:=ZU hs' hq
  exact⟨hs'.df,u,hrun,u,m',_,r,τ',rfl,hR,hst,hs'.sim,hc.le hle,hs'.step⟩
 cases e with
 |normal=>exact fin hq
 |ret=>exact fin hq
 |_=>exact hq.elim
variable {args':List AV}{K:AV->ZE->Prop}{b:Box K}
theorem DCall.go {k:Nat}(h:DCall P B f τ args k R)(π:Nat->Nat)(hp:ZAZ τ)(hj:∀i j,i<τ.length->j<τ.length->π i=π j->i=j)(hx:∀i,τ.length<=i->i<k->π i=σ.length+(i-τ.length))(hb:bOk π σ 0 τ)(ha:AV.le.les args' (AV.ren.rens π args))(hK:∀r τ',R r τ'->K (r.ren π) (ZFq π 0 τ' (σ++zA (k-τ.length) Blk.dead))):ACall P B f args' σ (hold K b):=
 ⟨h.1,fun m w vs hs hv=>(h.run π hp hj hx hb ha hs hv).mono fun e w' ⟨u,m',r,τ',h1,hR,h2,h3,h4⟩=>⟨u,_,_,m',h1,hK r τ' hR,by rw[(h.2.2.2.1 r τ' hR).2.2.1]at h2;exact h2,h3,h4⟩⟩
theorem DCall.ngo {k:Nat}(h:DCall P B f τ args k R)(hne:∃r τ',R r τ')(π:Nat->Nat)(hp:ZAZ τ)(hj:∀i j,i<τ.length->j<τ.length->π i=π j->i=j)(hx:∀i,τ.length<=i->i<k->π i=σ.length+(i-τ.length))(hb:bOk π σ 0 τ)(ha:AV.le.les args' (AV.ren.rens π args))(hK:∀r τ',R r τ'->K (r.ren π) (ZFq π 0 τ' (σ++zA (k-τ.length) Blk.dead))):ZE9 P B f args' σ (hold K b):=by
 obtain⟨r0,τ0,hR0⟩:=hne
 exact⟨{p:AV×ZE//R p.1 p.2},⟨(r0,τ0),hR0⟩,fun x=>x.1.1.ren π,fun x=>ZFq π 0 x.1.2 (σ++zA (k-τ.length) Blk.dead),fun K' hK'=>h.go (b:=(.mk:Box K')) π hp hj hx hb ha fun r τ' hR=>hK' ⟨(r,τ'),hR⟩,fun x=>hK _ _ x.2⟩
theorem ACall.gh (σ2:ZE)(hg:∀nb N fr,Gh B nb N ⟨fr,σ⟩ ⟨fr,σ2⟩)(h:ACall P B f args σ2 (hold K .mk)):ACall P B f args σ (hold K b):=by
 refine⟨h.1,fun m w vs hs hv=> ?_⟩
 obtain⟨m2,h1,h2⟩:=Gh.sim hg hs
 refine(h.2 m2 w vs h1 ⟨hv.1,fun i x hi=>(hv.2 i x hi).mono h2⟩).mono ?_
 rintro e w' ⟨u,r,σ',m',q1,q2,q3,q4,q5⟩
 exact⟨u,r,σ',m',q1,q2,q3,q4,h2.trans q5 hs.mapOk⟩
theorem RW.any (sz n:Nat):RW sz n (zA n (zA sz (.lit undef))) (zA n (zA sz undef)).flatten:=by
 have:=RW.rep n (zA sz undef)
 simpa using this
theorem RW.purss {rows:List (List AV)}{us:List Go.Value}(h:RW sz n rows us):Zb rows:=by
 intro e he
 have hf:∀x,x∈rows.flatten->x.pure:=fun x hx=>by
  rw[h.2.2]at hx
  obtain⟨v,_,rfl⟩:=List.mem_map.1 hx
  trivial
 have:∀l:List AV,(∀x,x∈l->x.pure)->AV.pure.pures l:=by
  intro l
  induction l with
  |nil=>intro _;trivial
  |cons a r ih=>intro q;exact⟨q a (List.mem_cons_self ..),ih fun x hx=>q x (List.mem_cons_of_mem _ hx)⟩
 exact this e fun x hx=>hf x (List.mem_flatten.2 ⟨e,he,hx⟩)
theorem LeaveD.fin {r r':AV}{σ' τ':ZE}(h:R r τ')(h1:r'.le r)(h2:ZDN σ' τ'):ZMu R r' σ':=⟨r,τ',h,h1,h2⟩
end
end Go.Vl
