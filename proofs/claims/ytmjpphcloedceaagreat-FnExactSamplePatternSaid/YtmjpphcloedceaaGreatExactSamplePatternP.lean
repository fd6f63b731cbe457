/- Part. -/
import Derived.Test.YtmjpphcloedceaaGreatExactSamplePatternF
set_option linter.all false
open Option renaming bind_eq_bind->zA,bind_some->zB
open List renaming replicate->zC,length_nil->zD,drop_zero->zE,nil_append->zF
namespace Go.Vl
open Go Go.RowKit
open Ctor renaming wt->zG
open Pattern renaming wt->zH,wt_eq->zI,ind->zJ,z->zK,Ok->zL
open F renaming f176->zM,f175->zN,f173->zO,f172->zP,f171->zQ,f169->zR,f168->zS,f166->zT,f165->zU,f163->zV,f161->zW,f160->zX,f22->zY,f21->zZ,f20->yA,f18->yB,f17->yC,f15->yD,f14->yE,f10->yF
open Go.IntKind (i64)
theorem P.YAx (a:List Ty)(ho:a.length<=maxLen)(l:Int)(h0:0<=l)(h1:l<=1048576):F.f2 a l=some (rem l (wtL Ty.wt a)):=by
  have hm:(a.length:Int)<=9223372036854775807:=by have:a.length<=9223372036854775807:=ho;omega
  have hw:wtL Ty.wt a=a.length:=ZJ9 (fun _=>rfl) a
  unfold F.f2
  rw[ZB (n:=l-a.length) (by omega) (by omega),hw]
  by_cases h:l-a.length<0
  · rw[iP h];simp only[rem];split
    · omega
    · rfl
  · rw[iN h,ZBF _ h]
theorem P.YA8 (x:Ctor)(ho:x.Ok)(l:Int)(h0:0<=l)(h1:l<=1048576):F.f3 x l=some (rem l x.wt):=by
  unfold F.f3
  have s1:(x.name.size:Int)<=9223372036854775807:=by have:x.name.size<=9223372036854775807:=ho.name;omega
  rw[ZB (n:=l-x.name.size) (by omega) (by omega)]
  by_cases g1:l-x.name.size<0
  · rw[iP g1];congr 1;unfold zG;simp only[rem]at g1 ⊢;split<;>omega
  have h1n:¬rem l (x.name.size)<0:=by simp only[rem]at*;split<;>omega
  rw[iN g1,ZBF _ g1]
  rw[P.YAx x.args ho.args.1 _ (by omega) (Int.le_trans (ZDM _ h0) h1)]
  simp only[zA,zB]
  rw[ZCe _ _ h1n]
  by_cases h2n:rem l (x.name.size+wtL Ty.wt x.args)<0
  · rw[iP h2n];congr 1;unfold zG;simp only[rem]at h2n ⊢;split at h2n<;>split<;>omega
  rw[iN h2n]
  rfl
theorem P.YAR (a:List Ctor)(ho:a.length<=maxLen)(hf:∀x,x∈a->∀l:Int,0<=l->l<=1048576->F.f3 x l=some (rem l (zG x)))(l:Int)(h0:0<=l)(h1:l<=1048576):F.f5 a l=some (rem l (wtL zG a)):=by
  have hm:(a.length:Int)<=9223372036854775807:=by have:a.length<=9223372036854775807:=ho;omega
  unfold F.f5
  rw[ZB (n:=l-a.length) (by omega) (by omega),ZCu]
  by_cases h:l-a.length<0
  · rw[iP h];simp only[rem];split
    · omega
    · rfl
  · have h2:¬rem l a.length<0:=by rw[←ZBF _ h];exact h
    rw[iN h,ZBF _ h,ZIl (L:=F.f4 a) (fun l i=>by rw[F.f4]) hf _ 0 _ rfl (by omega) (Int.le_trans (ZDM _ h0) h1),ZCe _ _ h2]
    simp only[zE,zA,zB]
    split
    · next h3=>
      split at h3
      · next h4=>cases h3;congr 1;simp only[rem]at h4 ⊢;split at h4<;>split<;>omega
      · cases h3
    · next h3=>
      split at h3
      · cases h3
      · cases h3;rfl
theorem P.YAz (a:List Ctor)(ho:okL Ctor.Ok a)(l:Int)(h0:0<=l)(h1:l<=1048576):F.f5 a l=some (rem l (wtL zG a)):=
  P.YAR a ho.1 (fun x hx=>P.YA8 x (ho.2 x hx)) l h0 h1
theorem P.YA7 (x:Data)(ho:x.Ok)(l:Int)(h0:0<=l)(h1:l<=1048576):F.f6 x l=some (rem l x.wt):=by
  unfold F.f6
  have s1:(x.name.size:Int)<=9223372036854775807:=by have:x.name.size<=9223372036854775807:=ho.name;omega
  rw[ZB (n:=l-x.name.size) (by omega) (by omega)]
  by_cases g1:l-x.name.size<0
  · rw[iP g1];congr 1;unfold Data.wt;simp only[rem]at g1 ⊢;split<;>omega
  have h1n:¬rem l (x.name.size)<0:=by simp only[rem]at*;split<;>omega
  rw[iN g1,ZBF _ g1]
  rw[P.YAz x.ctors ho.ctors _ (by omega) (Int.le_trans (ZDM _ h0) h1)]
  simp only[zA,zB]
  rw[ZCe _ _ h1n]
  by_cases h2n:rem l (x.name.size+wtL zG x.ctors)<0
  · rw[iP h2n];congr 1;unfold Data.wt;simp only[rem]at h2n ⊢;split at h2n<;>split<;>omega
  rw[iN h2n]
  rfl
theorem P.YAQ (a:List Data)(ho:a.length<=maxLen)(hf:∀x,x∈a->∀l:Int,0<=l->l<=1048576->F.f6 x l=some (rem l (Data.wt x)))(l:Int)(h0:0<=l)(h1:l<=1048576):F.f8 a l=some (rem l (wtL Data.wt a)):=by
  have hm:(a.length:Int)<=9223372036854775807:=by have:a.length<=9223372036854775807:=ho;omega
  unfold F.f8
  rw[ZB (n:=l-a.length) (by omega) (by omega),ZCu]
  by_cases h:l-a.length<0
  · rw[iP h];simp only[rem];split
    · omega
    · rfl
  · have h2:¬rem l a.length<0:=by rw[←ZBF _ h];exact h
    rw[iN h,ZBF _ h,ZIl (L:=F.f7 a) (fun l i=>by rw[F.f7]) hf _ 0 _ rfl (by omega) (Int.le_trans (ZDM _ h0) h1),ZCe _ _ h2]
    simp only[zE,zA,zB]
    split
    · next h3=>
      split at h3
      · next h4=>cases h3;congr 1;simp only[rem]at h4 ⊢;split at h4<;>split<;>omega
      · cases h3
    · next h3=>
      split at h3
      · cases h3
      · cases h3;rfl
theorem P.YAy (a:List Data)(ho:okL Data.Ok a)(l:Int)(h0:0<=l)(h1:l<=1048576):F.f8 a l=some (rem l (wtL Data.wt a)):=
  P.YAQ a ho.1 (fun x hx=>P.YA7 x (ho.2 x hx)) l h0 h1
theorem P.YQ (a:List Pattern)(ho:a.length<=maxLen)(hf:∀x,x∈a->∀l:Int,0<=l->l<=1048576->F.f9 x l=some (rem l (zH x)))(l:Int)(h0:0<=l)(h1:l<=1048576):yF a l=some (rem l (wtL zH a)):=by
  have hm:(a.length:Int)<=9223372036854775807:=by have:a.length<=9223372036854775807:=ho;omega
  unfold yF
  rw[ZB (n:=l-a.length) (by omega) (by omega),ZCu]
  by_cases h:l-a.length<0
  · rw[iP h];simp only[rem];split
    · omega
    · rfl
  · have h2:¬rem l a.length<0:=by rw[←ZBF _ h];exact h
    rw[iN h,ZBF _ h,ZIl (L:=F.f11 a) (fun l i=>by rw[F.f11]) hf _ 0 _ rfl (by omega) (Int.le_trans (ZDM _ h0) h1),ZCe _ _ h2]
    simp only[zE,zA,zB]
    split
    · next h3=>
      split at h3
      · next h4=>cases h3;congr 1;simp only[rem]at h4 ⊢;split at h4<;>split<;>omega
      · cases h3
    · next h3=>
      split at h3
      · cases h3
      · cases h3;rfl
theorem P.YAB (x:Pattern)(ho:x.Ok)(l:Int)(h0:0<=l)(h1:l<=1048576):F.f9 x l=some (rem l x.wt):=by
  induction x using zJ generalizing l with
  |_ x ih=>
  unfold F.f9
  rw[P.YQ x.kids ho.kids.1 (fun k hk l h0 h1=>ih k hk (ho.kids.2 k hk) l h0 h1) _ h0 h1]
  simp only[zA,zB]
  by_cases h1n:rem l (wtL zH x.kids)<0
  · rw[iP h1n];congr 1;rw[zI];simp only[rem]at h1n ⊢;split at h1n<;>split<;>omega
  rw[iN h1n]
  rw[zI]
theorem P.YA6 (a:List Pattern)(ho:okL zL a)(l:Int)(h0:0<=l)(h1:l<=1048576):yF a l=some (rem l (wtL zH a)):=
  P.YQ a ho.1 (fun x hx=>P.YAB x (ho.2 x hx)) l h0 h1
theorem P.YAn (x:Ty)(hw:x.wt<=67108864):F.f12 x=some x:=by
  rfl
theorem P.YAN (a:List Ty)(hl:a.length<=67108864)(hf:∀x,x∈a->F.f12 x=some x):yE a=some a:=by
  unfold yE
  rw[iP hl,ZHB (a:=a) (L:=F.f13 a) (fun out i=>by rw[F.f13]) hf _ 0 (zC a.length Ty.z) rfl (by simp) rfl]
  rfl
theorem P.YAu (a:List Ty)(hw:wtL Ty.wt a<=67108864):yE a=some a:=
  P.YAN a (by have:=ZCZ Ty.wt a;omega) (fun x hx=>P.YAn x (by have:=ZAz Ty.wt hx;omega))
theorem P.YA5 (x:Ctor)(hw:x.wt<=67108864):yD x=some x:=by
  unfold yD
  have hw2:=hw;unfold zG at hw2
  rw[P.YAu x.args (by omega)]
  simp only[zA,zB]
  all_goals(cases x;rfl)
theorem P.YAP (a:List Ctor)(hl:a.length<=67108864)(hf:∀x,x∈a->yD x=some x):yC a=some a:=by
  unfold yC
  rw[iP hl,ZHB (a:=a) (L:=F.f16 a) (fun out i=>by rw[F.f16]) hf _ 0 (zC a.length Ctor.z) rfl (by simp) rfl]
  rfl
theorem P.YAw (a:List Ctor)(hw:wtL zG a<=67108864):yC a=some a:=
  P.YAP a (by have:=ZCZ zG a;omega) (fun x hx=>P.YA5 x (by have:=ZAz zG hx;omega))
theorem P.YA4 (x:Data)(hw:x.wt<=67108864):yB x=some x:=by
  unfold yB
  have hw2:=hw;unfold Data.wt at hw2
  rw[P.YAw x.ctors (by omega)]
  simp only[zA,zB]
  all_goals(cases x;rfl)
theorem P.YAO (a:List Data)(hl:a.length<=67108864)(hf:∀x,x∈a->yB x=some x):yA a=some a:=by
  unfold yA
  rw[iP hl,ZHB (a:=a) (L:=F.f19 a) (fun out i=>by rw[F.f19]) hf _ 0 (zC a.length Data.z) rfl (by simp) rfl]
  rfl
theorem P.YAv (a:List Data)(hw:wtL Data.wt a<=67108864):yA a=some a:=
  P.YAO a (by have:=ZCZ Data.wt a;omega) (fun x hx=>P.YA4 x (by have:=ZAz Data.wt hx;omega))
theorem P.YP (a:List Pattern)(hl:a.length<=67108864)(hf:∀x,x∈a->zZ x=some x):zY a=some a:=by
  unfold zY
  rw[iP hl,ZHB (a:=a) (L:=F.f23 a) (fun out i=>by rw[F.f23]) hf _ 0 (zC a.length zK) rfl (by simp) rfl]
  rfl
theorem P.YAA (x:Pattern)(hw:x.wt<=67108864):zZ x=some x:=by
  induction x using zJ with
  |_ x ih=>
  unfold zZ
  have hw2:=hw;rw[zI]at hw2
  rw[P.YP x.kids (by have:=ZCZ zH x.kids;omega) (fun k hk=>ih k hk (by have:=ZAz zH hk;omega))]
  simp only[zA,zB]
  all_goals(cases x;rfl)
theorem P.YA3 (a:List Pattern)(hw:wtL zH a<=67108864):zY a=some a:=
  P.YP a (by have:=ZCZ zH a;omega) (fun x hx=>P.YAA x (by have:=ZAz zH hx;omega))
theorem P.Yh (a:List Value)(hf:∀x,x∈a->∀y,zX x y=some (dec (x=y)))(b:List Value):zW a b=some (dec (a=b)):=by
  unfold zW
  by_cases h:a.length=b.length
  · rw[iP h,ZFn (L:=F.f162 a b) (fun i=>by rw[F.f162]) hf h _ 0 rfl]
    by_cases e:a=b
    · simp[e,dec_of]
    · simp[e,ZD]
  · rw[iN h,ZD]
    intro e;rw[e]at h;exact h rfl
theorem P.YAc (x y:Value):zX x y=some (dec (x=y)):=by
  induction x using Value.ind generalizing y with
  |_ x ih=>
  unfold zX
  simp only[P.Yh x.kids (fun k hk y=>ih k hk y),zA,zB,Zq]
  cases x;cases y
  simp only[Value.mk.injEq]
  repeat' split
  all_goals first|(rw[dec_of];simp_all[Zq,ZV];done)|(rw[ZD];simp_all[Zq,ZV];done)
theorem P.YBF (a b:List Value):zW a b=some (dec (a=b)):=
  P.Yh a (fun x _ y=>P.YAc x y) b
theorem P.YA9 (x y:Ty):zV x y=some (dec (x=y)):=by
  unfold zV
  cases x;cases y
  simp only[Ty.mk.injEq]
  repeat' split
  all_goals first|(rw[dec_of];simp_all[Zq,ZV];done)|(rw[ZD];simp_all[Zq,ZV];done)
theorem P.YAW (a:List Ty)(hf:∀x,x∈a->∀y,zV x y=some (dec (x=y)))(b:List Ty):zU a b=some (dec (a=b)):=by
  unfold zU
  by_cases h:a.length=b.length
  · rw[iP h,ZFn (L:=F.f164 a b) (fun i=>by rw[F.f164]) hf h _ 0 rfl]
    by_cases e:a=b
    · simp[e,dec_of]
    · simp[e,ZD]
  · rw[iN h,ZD]
    intro e;rw[e]at h;exact h rfl
theorem P.YA0 (a b:List Ty):zU a b=some (dec (a=b)):=
  P.YAW a (fun x _ y=>P.YA9 x y) b
theorem P.YBC (x y:Ctor):zT x y=some (dec (x=y)):=by
  unfold zT
  simp only[ZAP,P.YA0,zA,zB,Zq]
  cases x;cases y
  simp only[Ctor.mk.injEq]
  repeat' split
  all_goals first|(rw[dec_of];simp_all[Zq,ZV];done)|(rw[ZD];simp_all[Zq,ZV];done)
theorem P.YAY (a:List Ctor)(hf:∀x,x∈a->∀y,zT x y=some (dec (x=y)))(b:List Ctor):zS a b=some (dec (a=b)):=by
  unfold zS
  by_cases h:a.length=b.length
  · rw[iP h,ZFn (L:=F.f167 a b) (fun i=>by rw[F.f167]) hf h _ 0 rfl]
    by_cases e:a=b
    · simp[e,dec_of]
    · simp[e,ZD]
  · rw[iN h,ZD]
    intro e;rw[e]at h;exact h rfl
theorem P.YA2 (a b:List Ctor):zS a b=some (dec (a=b)):=
  P.YAY a (fun x _ y=>P.YBC x y) b
theorem P.YBB (x y:Data):zR x y=some (dec (x=y)):=by
  unfold zR
  simp only[ZAP,P.YA2,zA,zB,Zq]
  cases x;cases y
  simp only[Data.mk.injEq]
  repeat' split
  all_goals first|(rw[dec_of];simp_all[Zq,ZV];done)|(rw[ZD];simp_all[Zq,ZV];done)
theorem P.YAX (a:List Data)(hf:∀x,x∈a->∀y,zR x y=some (dec (x=y)))(b:List Data):zQ a b=some (dec (a=b)):=by
  unfold zQ
  by_cases h:a.length=b.length
  · rw[iP h,ZFn (L:=F.f170 a b) (fun i=>by rw[F.f170]) hf h _ 0 rfl]
    by_cases e:a=b
    · simp[e,dec_of]
    · simp[e,ZD]
  · rw[iN h,ZD]
    intro e;rw[e]at h;exact h rfl
theorem P.YA1 (a b:List Data):zQ a b=some (dec (a=b)):=
  P.YAX a (fun x _ y=>P.YBB x y) b
theorem P.YU (a:List Pattern)(hf:∀x,x∈a->∀y,zP x y=some (dec (x=y)))(b:List Pattern):zO a b=some (dec (a=b)):=by
  unfold zO
  by_cases h:a.length=b.length
  · rw[iP h,ZFn (L:=F.f174 a b) (fun i=>by rw[F.f174]) hf h _ 0 rfl]
    by_cases e:a=b
    · simp[e,dec_of]
    · simp[e,ZD]
  · rw[iN h,ZD]
    intro e;rw[e]at h;exact h rfl
theorem P.YAC (x y:Pattern):zP x y=some (dec (x=y)):=by
  induction x using zJ generalizing y with
  |_ x ih=>
  unfold zP
  simp only[P.YU x.kids (fun k hk y=>ih k hk y),zA,zB,Zq]
  cases x;cases y
  simp only[Pattern.mk.injEq]
  repeat' split
  all_goals first|(rw[dec_of];simp_all[Zq,ZV];done)|(rw[ZD];simp_all[Zq,ZV];done)
theorem P.YBA (a b:List Pattern):zO a b=some (dec (a=b)):=
  P.YU a (fun x _ y=>P.YAC x y) b
-- held
theorem P.YAI :∀m:Nat,(∀(r D:List Value) (k:Int),SizeOf.sizeOf r<m->0<=k->k+(Value.cntL r:Int)<=9223372036854775807->zM (D++(Value.mkL r k).1) k D.length=some (.go (Value.mkL r k).2)):=by
  intro m
  induction m with
  |zero=>exact fun r D k h=>absurd h (Nat.not_lt_zero _)
  |succ m ih=>
    intro r D k hm h0 h
    induction r generalizing D k with
    |nil=>rw[zM,iN (by simp[Value.mkL])];simp[Value.mkL]
    |cons x r ihr=>
      have hr:SizeOf.sizeOf r<m+1:=by simp at hm;omega
      simp only[Value.cntL]at h
      have hE:(Value.mkE x k).2=k+(Value.cnt x:Int):=by
        have h2:=Value.mkL_snd [x] k h0 (by simp only[Value.cntL];omega)
        simpa[Value.mkL,Value.cntL]using h2
      obtain⟨A,hA⟩:∃A,A=(D++[(Value.mkE x k).1])++(Value.mkL r (Value.mkE x k).2).1:=⟨_,rfl⟩
      have h1:D++(Value.mkL (x::r) k).1=A:=by rw[hA];simp[Value.mkL]
      have hlt:D.length<A.length:=by rw[hA];simp
      have hget:A[D.length]? =some (Value.mkE x k).1:=by rw[hA];simp
      have ihr2:=ihr (D++[(Value.mkE x k).1]) (Value.mkE x k).2 hr (by rw[hE];omega) (by rw[hE];omega)
      rw[←hA]at ihr2
      simp only[List.length_append,List.length_cons,zD,Nat.zero_add]at ihr2
      have e2:(Value.mkL (x::r) k).2=(Value.mkL r (Value.mkE x k).2).2:=by rw[Value.mkL]
      rw[e2,h1,zM,iP hlt,hget]
      simp only[zA,zB]
      generalize hk2:(Value.mkE x k).2=k2 at ihr2 hE ⊢
      clear hA h1 hget e2 ihr
      obtain⟨ctor,n,kids⟩:=x
      simp only[Value.cnt]at h hE
      simp only[Value.mkE]at hk2 ⊢
      have w1:i64.wrap (k+1)=k+1:=ZB (by omega) (by omega)
      rw[iP (by first|rfl|trivial)]
      have w2:i64.wrap (k+1+1)=k+1+1:=ZB (by omega) (by omega)
      rw[iP (by first|rfl|trivial)]
      have rw3:i64.wrap ((i64.wrap (k+1))+1)=k+1+1:=by simp only[w1,w2]
      have qw3:zN (Value.mkL kids (i64.wrap ((i64.wrap (k+1))+1))).1 (i64.wrap ((i64.wrap (k+1))+1))=some (Value.mkL kids (i64.wrap ((i64.wrap (k+1))+1))).2:=by
        have h3:=ih kids [] (i64.wrap ((i64.wrap (k+1))+1)) (by simp at hm;omega) (by rw[rw3];omega) (by rw[rw3];omega)
        simp only[zF,zD]at h3
        rw[zN,h3];rfl
      have w3:(Value.mkL kids (k+1+1)).2=k+1+1+(Value.cntL kids:Int):=Value.mkL_snd _ _ (by omega) (by omega)
      rw[qw3]
      simp only[zB]
      rw[iN (by rw[rw3,w3];omega)]
      rw[hk2]
      exact ihr2
theorem P.Yy (r D:List Value)(k:Int)(h0:0<=k)(h:k+(Value.cntL r:Int)<=9223372036854775807):zM (D++(Value.mkL r k).1) k D.length=some (.go (Value.mkL r k).2):=(P.YAI (SizeOf.sizeOf r+1)) r D k (Nat.lt_succ_self _) h0 h
theorem P.YAV (l:List Value)(k:Int)(h0:0<=k)(h:k+(Value.cntL l:Int)<=9223372036854775807):zN (Value.mkL l k).1 k=some (Value.mkL l k).2:=by
  unfold zN
  have:=P.Yy l [] k h0 h
  simp only[zF,zD]at this
  rw[this]
  rfl
end Go.Vl
