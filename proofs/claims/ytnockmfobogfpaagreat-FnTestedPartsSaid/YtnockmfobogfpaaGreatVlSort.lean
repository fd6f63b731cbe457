/- Part. -/
import Derived.Test.YtnockmfobogfpaaGreatVlSortL
import Derived.Test.YtnockmfobogfpaaGreatVlOwn
import Derived.Shelf.SlSortCmp.NoneTotal
set_option linter.all false
open List renaming getElem?_eq_getElem->zA,getElem?_eq_some_iff->zB,getElem?_map->zC,length_map->zD,getElem!_eq_getElem?_getD->zF,pairwise_iff_getElem->zG,mem_iff_getElem->zH,getElem_mem->zI,mem_map->zJ
open Nat renaming mul_comm->zK,mul_le_mul_right->zL,le_refl->zM,add_mul->zN
open Array renaming eq_empty_of_size_eq_zero->zO,getElem?_eq_some_iff->zP,getElem?_toList->zQ,getD->zS
open Prod renaming fst->zT
namespace Go.Vl
open Go Go.Proofs Go.Shelf Go.RowKit Go.Sort
/-! ### Rows of cells -/
structure KRow (k:Nat)where
 key:Int
 rest:List Value
 len:rest.length=k
 one:∀v∈rest,v.oneCell'=true
namespace KRow
variable {k : Nat}
def enc (r:KRow k):List Value:=.int .i64 r.key::r.rest
instance:Inhabited (KRow k):=⟨⟨0,List.replicate k (.int .i64 0),by simp,fun v hv=>by rw[(List.mem_replicate.1 hv).2];rfl⟩⟩
theorem enc_len (r:KRow k):r.enc.length=k+1:=by simp[enc,r.len]
theorem enc_one (r:KRow k):∀v∈r.enc,v.oneCell'=true:=by
 intro v hv
 rcases List.mem_cons.1 hv with rfl|hv
 ·rfl
 ·exact r.one v hv
def cmp (x y:KRow k):Int:=Lib.compareInt x.key y.key
theorem lt (x y:KRow k):ltOf cmp x y=decide (x.key<y.key):=by
 unfold ltOf cmp Lib.compareInt
 by_cases h1:x.key<y.key
 ·simp[h1]
 ·by_cases h2:y.key<x.key<;>simp[h1,h2]
theorem swo :SWO (ltOf (cmp (k:=k)))where
 irrefl x:=by rw[lt];simp
 trans x y z h1 h2:=by rw[lt]at*;simp at*;omega
 ntrans x y z h1 h2:=by rw[lt]at*;simp at*;omega
end KRow
def ZSv (P:Program)(g k:Nat):Prop:=∀(a b:Int) (l l':List Value) (W:World),l.length=k->l'.length=k->(∀v∈l,v.oneCell'=true)->(∀v∈l',v.oneCell'=true)->
 Calls P g #[.agg (.int .i64 a::l).toArray,.agg (.int .i64 b::l').toArray] W fun e w'=>e=.returned (.int .i64 (Lib.compareInt a b))/\∃q os',w'=grow (W.drewN q) os'
variable {F ccs:Array Value}
theorem ZHk (id':Nat->Nat){w:World}{b n:Nat}{os:Array Obj}{ty:TypeId}(hh:w.heap[b]? =some (.cells ccs ty (0,0)))(x:Nat)(hx:x<w.heap.size):
  (grow (putRow id (Sort.ahead w n) b 0 F) os).heap[x]? =if x=b then some (.cells (putCells id 0 F ccs) ty (0,0))else w.heap[x]? :=by
 rw[heap_grow_old _ _ (by rw[Sort.size_putRow];exact hx)]
 show(w.heap.modify b (onCells (putCells id 0 F)))[x]? =_
 rw[Array.getElem?_modify]
 by_cases e:b=x
 ·subst e
  rw[iP rfl,iP rfl,hh]
  rfl
 ·rw[iN e,iN (Ne.symm e)]
theorem ZHR {t:Nat}(ht:t<F.size)(hF:F.size<=ccs.size):(putCells id 0 F ccs)[t]? =some F[t]! :=by
 unfold putCells
 rw[Array.getElem?_mapIdx,Array.getElem?_eq_getElem (by omega)]
 simp[ht]
section
variable {P : Program} {ρ : Ren} {B : Nat} {α : Type} {c : α -> List AV} {key : α -> Int} {k : Nat}
theorem ZI9 (L:SlLaysF0.n6 P ρ)(he:Ent P (ρ.f 6))(aE:∀w,(isAgg (ρ.t 24)).run P w=.ok true w)(zE:∀w,(Go.sizeOf (ρ.t 24)).run P w=.ok (k+1) w){g:Nat}
  (eg:∀args w,(callFunc g args).run P w=.ok (.enter g args) w) (hcmp:ZSv P g k) (xs:List α) (hc:∀x,∃r,c x=.lit (.int .i64 (key x))::r/\r.length=k) (nc:Nice c)
  (hn:(xs.map key).Nodup) (hl:xs.length<=67108864):
  BCall P B (ρ.f 6) [.elems (k+1) (xs.map c)] [.own 0 xs.length,.fn (.func g) [] []] (.tup []) [.elems (k+1) ((sortI key xs).map c)]:=by
 have cl:∀l:List α,Za 1 (l.map c):=fun l e he=>by
  obtain⟨x,_,rfl⟩:=zJ.1 he
  exact nc.cl 1 x
 refine⟨he,⟨cl _,trivial⟩,by simp,by simp,⟨cl _,trivial⟩,zM _,fun m w vs hs hv=> ?_⟩
 obtain⟨hsz,hv⟩:=hv
 have c0:=hv 0 _ rfl
 have c1:=hv 1 _ rfl
 have hck:∀x,(c x).length=k+1:=fun x=>by obtain⟨r,q1,q2⟩:=hc x;rw[q1];simp[q2]
 obtain⟨fv,e1⟩:∃fv,vs.getD 1 undef=fv:=⟨_,rfl⟩
 have hfv:fv=.func (.func g) #[] #[]:=by
  rw[e1]at c1
  generalize hx:AV.fn (.func g) [] []=x at c1
  cases c1 with
  |fn f xs' ys us vs' hl1 hl2 _ _=>
   cases hx
   have:us=#[]:=by apply zO;simpa using hl1
   subst this
   have:vs'=#[]:=by apply zO;simpa using hl2
   subst this
   rfl
  |_=>cases hx
 subst hfv
 obtain⟨sv,e0⟩:∃sv,vs.getD 0 undef=sv:=⟨_,rfl⟩
 rw[e0]at c0
 have evs:vs=#[sv,.func (.func g) #[] #[]]:=by
  apply Array.ext
  ·simpa using hsz
  ·intro i h1 h2
   have hi:i<2:=by simpa using h2
   rcases i with _|_|i
   ·simpa[zS,h1]using e0
   ·simpa[zS,h1]using e1
   ·omega
 subst evs
 have hb:=hs.blk 0
 obtain⟨b1,b2,b3⟩:=hb
 have len:(xs.map c).length=xs.length:=zD ..
 by_cases hx:xs=[]
 ·subst hx
  have:∃p cap,sv=.slice p 0 cap:=by
   generalize hx:AV.own 0 ([]:List α).length=x at c0
   cases c0 with
   |ownOther l n a cap _ _ _=>cases hx;exact⟨_,_,rfl⟩
   |ownNil l a _ _=>cases hx;exact⟨_,_,rfl⟩
   |ownArr l b sz len cap ccs ty _ _ _ _ _=>cases hx;exact⟨_,_,rfl⟩
   |_=>cases hx
  obtain⟨p,cap,rfl⟩:=this
  refine(AnyF.slices_SortFunc_none L p cap _ w).mono ?_
  rintro e w' ⟨rfl,rfl⟩
  exact⟨_,m,_,rfl,ZCI _,hs,.tup [] #[] rfl (fun i x h=>by simp at h),Fr.refl m _⟩
 ·rcases b3 with⟨_,b3⟩|⟨b,ccs,ty,q1,q2,q3,q4⟩
  ·exact absurd (List.map_eq_nil_iff.1 b3) hx
  rw[len]at q1 q3
  have hsv:∃cap,sv=.slice (some ⟨b,0,none⟩) xs.length cap:=by
   generalize hx:AV.own 0 xs.length=x at c0
   cases c0 with
   |ownOther l n a cap _ h _=>cases hx;rw[q1]at h;exact absurd (h _ rfl) (by simp)
   |ownNil l a _ h=>
    injection hx with h1 h2
    subst h1
    rw[q1]at h;cases h
   |ownArr l b' sz len' cap ccs' ty' _ h _ _ _=>cases hx;rw[q1]at h;cases h;exact⟨cap,rfl⟩
   |_=>cases hx
  obtain⟨cap,rfl⟩:=hsv
  -- the rows as they lie
  obtain⟨rs,r1,r2⟩:=ZBC (α:=KRow k) (Q:=fun i r=>∀x,xs[i]? =some x->r.key=key x/\∀j a,(c x)[j]? =some a->∃y,r.enc[j]? =some y/\ccs[i*(k+1)+j]? =some y/\Conc B (Av m) w m a y) xs.length (fun i hi=>by
   have hxi:xs[i]? =some xs[i]:=zA hi
   have hei:(xs.map c)[i]? =some (c xs[i]):=by rw[zC,hxi];rfl
   obtain⟨r,g1,g2⟩:=hc xs[i]
   obtain⟨ys,y1,y2⟩:=ZBC (α:=Value) (Q:=fun j y=>ccs[i*(k+1)+(j+1)]? =some y/\∀a,r[j]? =some a->Conc B (Av m) w m a y) k (fun j hj=>by
    have hj':(c xs[i])[j+1]? =some (r[j]'(by omega)):=by rw[g1];simp[g2,hj]
    obtain⟨y,p1,p2⟩:=q4 i _ (j+1) _ hei hj'
    exact⟨y,p1,fun a ha=>by rw[zA (by omega)]at ha;cases ha;exact p2⟩)
   obtain⟨y0,p1,p2⟩:=q4 i _ 0 _ hei (by rw[g1];rfl)
   have hy0:=Conc.lit_inv p2
   subst hy0
   refine⟨⟨key xs[i],ys,y1,fun v hv=> ?_⟩,fun x hx'=> ?_⟩
   ·obtain⟨j,hj,rfl⟩:=zH.1 hv
    have o1:=(y2 j _ (zA hj)).2 _ (zA (show j<r.length by omega))
    refine ZFT hs o1 ?_
    refine ZBn (nc.ok _ xs[i]) (i:=j+1) ?_
    rw[g1]
    simp[show j<r.length by omega]
   ·rw[hxi]at hx';cases hx'
    refine⟨rfl,fun j a ha=> ?_⟩
    rw[g1]at ha
    rcases j with _|j
    ·cases ha
     exact⟨_,rfl,p1,p2⟩
    ·have ha:r[j]? =some a:=by simpa using ha
     have hj:j<k:=by have:=(zB.1 ha).1;omega
     obtain⟨s1,s2⟩:=y2 j _ (zA (show j<ys.length by omega))
     exact⟨ys[j],by show(Value.int .i64 _::ys)[j+1]? =_;simp[show j<ys.length by omega],s1,s2 a ha⟩)
  have hF:∀(d:Array (KRow k)) (i j:Nat),i<d.size->j<k+1->(flatK KRow.enc (k+1) d)[i*(k+1)+j]! =(d[i]!).enc[j]! :=fun d i j hi hj=>by
   have hm:(i*(k+1)+j)/(k+1)=i:=by rw[zK,Nat.mul_add_div (by omega),Nat.div_eq_of_lt hj];rfl
   have hm2:(i*(k+1)+j)% (k+1)=j:=by rw[zK,Nat.mul_add_mod,Nat.mod_eq_of_lt hj]
   rw[get_flatK _ _ _ _ (by have:=zL (k+1) (show i+1<=d.size from hi);rw[zN]at this;omega),hm,hm2]
  have hblk:b<w.heap.size:=(zP.1 q2).1
  have hH:HoldsK KRow.enc (k+1) w b 0 rs.toArray:=fun t ht=>by
   rw[size_flatK]at ht
   have ht':t/(k+1)<rs.length:=by rw[Nat.div_lt_iff_lt_mul (by omega)];simpa using ht
   have hj:t% (k+1)<k+1:=Nat.mod_lt _ (by omega)
   have et:t=(t/(k+1))*(k+1)+t% (k+1):=by rw[zK];exact(Nat.div_add_mod t (k+1)).symm
   have hxi:xs[t/(k+1)]? =some (xs[t/(k+1)]'(by omega)):=zA (by omega)
   obtain⟨_,g2⟩:=r2 (t/(k+1)) _ (zA ht') _ hxi
   obtain⟨y,g3,g4,_⟩:=g2 (t% (k+1)) _ (zA (show t% (k+1)<(c _).length by rw[hck];exact hj))
   have e2:(flatK KRow.enc (k+1) rs.toArray)[t]! =y:=by
    conv=>lhs;rw[et]
    rw[hF _ _ _ (by simpa using ht') hj]
    simp only[List.getElem!_toArray,zF,zA ht',Option.getD_some,g3]
   rw[e2]
   refine⟨?_,?_⟩
   ·simp only[World.cell?,q2,Option.isSome_none]
    rw[iN (by simp),Nat.zero_add,et];exact g4
   ·simp only[World.frozen?,q2]
    simp
  have hlen:rs.toArray.size=xs.length:=by simpa using r1
  have call:=AnyQ.slices_SortFunc L (k+1) aE zE KRow.enc KRow.enc_len KRow.enc_one KRow.cmp KRow.swo g #[] b 0 cap rs.toArray w eg
   (fun n os dk _ x y=>hcmp x.key y.key x.rest y.rest _ x.len y.len x.one y.one) hH hblk (by rw[hlen];omega)
  rw[hlen]at call
  refine call.mono ?_
  rintro e w' ⟨rfl,d',n,os,hperm,hsort,rfl⟩
  obtain⟨p1,_,p3⟩:=hperm
  have p1:d'.size=xs.length:=by rw[p1,hlen]
  have p3:d'.toList.Perm rs:=by
   have a1:d'.extract 0 xs.length=d':=by rw[←p1];simp
   have a2:rs.toArray.extract 0 xs.length=rs.toArray:=by rw[←hlen];simp
   rw[a1,a2]at p3
   simpa using p3
  -- pairs of a row and what it stands for
  let z:=xs.zip rs
  have z1:z.map zT=xs:=by rw[List.map_fst_zip];omega
  have z2:z.map Prod.snd=rs:=by rw[List.map_snd_zip];omega
  obtain⟨z',y1,y2⟩:=ZKm p3.symm z z2
  have zR:∀p,p∈z'->p.2.key=key p.1/\∀j a,(c p.1)[j]? =some a->∃y,p.2.enc[j]? =some y/\Conc B (Av m) w m a y:=fun p hp=>by
   obtain⟨i,hi,rfl⟩:=zH.1 (y1.mem_iff.1 hp)
   have hi':i<xs.length/\i<rs.length:=by
    have:i<min xs.length rs.length:=by simpa[z]using hi
    omega
   have e3:z[i]=(xs[i]'hi'.1,rs[i]'hi'.2):=by simp[z]
   rw[e3]
   obtain⟨g1,g2⟩:=r2 i _ (zA hi'.2) _ (zA hi'.1)
   exact⟨g1,fun j a ha=>by obtain⟨y,g3,_,g5⟩:=g2 j a ha;exact⟨y,g3,g5⟩⟩
  have zl:z'.length=xs.length:=by rw[←p1,←Array.length_toList,←y2,zD]
  have hs':z'.map zT=sortI key xs:=by
   refine ZHd (key:=key) _ _ ((z1▸ (y1.map zT)).trans (ZBi xs).symm) ?_ (ZDT xs hn)
   rw[zG]
   intro i j hi hj hij
   rw[zD]at hi hj
   have s1:=hsort i j (Nat.zero_le _) hij (by omega)
   rw[KRow.lt]at s1
   have d1:∀i (h:i<z'.length),d'[i]! =z'[i].2:=fun i h=>by
    have:d'.toList[i]? =some z'[i].2:=by rw[←y2,zC,zA h];rfl
    rw[zQ]at this
    rw[getElem!_def,this]
   rw[d1 i hi,d1 j hj]at s1
   have k1:=(zR _ (zI hi)).1
   have k2:=(zR _ (zI hj)).1
   rw[k1,k2]at s1
   simp only[decide_eq_false_iff_not,Int.not_lt]at s1
   simp only[List.getElem_map]
   refine Decidable.byContradiction fun h=> ?_
   have e:key z'[i].1=key z'[j].1:=by omega
   have nd:((z'.map zT).map key).Nodup:=by
    refine(List.Perm.nodup_iff ((z1▸ (y1.map zT)).map key)).2 hn
   rw[List.nodup_iff_pairwise_ne,zG]at nd
   exact nd i j (by simpa using hi) (by simpa using hj) hij (by simpa using e)
  -- the world behind
  have hFs:(flatK KRow.enc (k+1) d').size=xs.length*(k+1):=by rw[size_flatK,p1]
  have hw:=fun x hx=>ZHk (fun x=>x) (F:=flatK KRow.enc (k+1) d') (n:=n) (os:=os) q2 x hx
  have hsize:w.heap.size<=(sortWorldK KRow.enc (k+1) w b 0 n d' os).heap.size:=size_sortWorldK_c ..
  have hwr:Wr m b:=⟨0,by rw[q1];rfl⟩
  have hfr:Fr m w m (sortWorldK KRow.enc (k+1) w b 0 n d' os):=by
   refine⟨hsize,fun x hx hnw=> ?_,fun x ccs' ty' hxw _ hh=> ?_,fun x hx=>.inl hx,fun _ _=>.inl rfl,zM _,rfl,rfl,rfl,rfl⟩
   ·refine(hw x hx).trans ?_
    rw[iN]
    rintro rfl
    exact hnw hwr
   ·have hx:x<w.heap.size:=(zP.1 hh).1
    by_cases e:x=b
    ·subst e
     rw[q2]at hh;cases hh
     exact⟨_,(hw x hx).trans (iP rfl),by simp[putCells]⟩
    ·exact⟨ccs',(hw x hx).trans ((iN e).trans hh),rfl⟩
  refine⟨_,m,_,rfl,ZCI _,⟨hs.n,fun l=> ?_,hs.inj,hs.sep,fun x hx=>Nat.lt_of_lt_of_le (hs.avlt x hx) hsize,TbOk.fr hs hfr⟩,.tup [] #[] rfl (fun i x h=>by simp at h),hfr⟩
  rcases l with _|l
  ·have len2:((sortI key xs).map c).length=xs.length:=by rw[zD,ZCL]
   refine⟨fun e he=> ?_,by rw[len2,←len];exact b2,.inr ⟨b,_,ty,by rw[len2];exact q1,(hw b hblk).trans (iP rfl),by rw[len2];simpa[putCells]using q3,fun i e j x hi hj=> ?_⟩⟩
   ·obtain⟨x,_,rfl⟩:=zJ.1 he
    exact hck x
   ·rw[←hs',List.map_map,zC]at hi
    obtain⟨p,hp,rfl⟩:=Option.map_eq_some_iff.1 hi
    have hiz:i<z'.length:=(zB.1 hp).1
    obtain⟨y,g1,g2⟩:=(zR p (List.mem_of_getElem? hp)).2 j x hj
    have hj':j<k+1:=by have:=(zB.1 hj).1;rw[←hck p.1];exact this
    have hlt:i*(k+1)+j<xs.length*(k+1):=by have:=zL (k+1) (show i+1<=xs.length by omega);rw[zN]at this;omega
    refine⟨y,?_,g2.mono hfr⟩
    rw[ZHR (by rw[hFs];exact hlt) (by rw[hFs];rw[len]at*;exact q3),hF _ _ _ (by omega) hj']
    have d1:d'[i]! =p.2:=by
     have:d'.toList[i]? =some p.2:=by rw[←y2,zC,hp];rfl
     rw[zQ]at this
     rw[getElem!_def,this]
    rw[d1,zF,g1]
    rfl
  ·exact hs.blk (l+1)
end
end Go.Vl
