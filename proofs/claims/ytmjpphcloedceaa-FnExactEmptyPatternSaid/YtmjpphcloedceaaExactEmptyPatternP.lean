/- Part. -/
import Derived.Test.YtmjpphcloedceaaExactEmptyPatternF
set_option linter.all false
open Option renaming bind_eq_bind->zA,bind_some->zB
open List renaming replicate->zC,drop_zero->zD
namespace Go.Vl
open Go Go.RowKit
open Ctor renaming wt->zE
open Pattern renaming wt->zF,wt_eq->zG,ind->zH,z->zI,Ok->zJ
open F renaming f144->zK,f143->zL,f142->zM,f140->zN,f139->zO,f137->zP,f136->zQ,f134->zR,f20->zS,f19->zT,f18->zU,f16->zV,f15->zW,f13->zX,f12->zY
theorem P.YAh (a:List Ty)(ho:a.length<=maxLen)(l:Int)(h0:0<=l)(h1:l<=1048576):F.f0 a l=some (rem l (wtL Ty.wt a)):=by
  have hm:(a.length:Int)<=9223372036854775807:=by have:a.length<=9223372036854775807:=ho;omega
  have hw:wtL Ty.wt a=a.length:=ZJE (fun _=>rfl) a
  unfold F.f0
  rw[ZE (n:=l-a.length) (by omega) (by omega),hw]
  by_cases h:l-a.length<0
  · rw[iP h];simp only[rem];split
    · omega
    · rfl
  · rw[iN h,ZAs _ h]
theorem P.YAt (x:Ctor)(ho:x.Ok)(l:Int)(h0:0<=l)(h1:l<=1048576):F.f1 x l=some (rem l x.wt):=by
  unfold F.f1
  have s1:(x.name.size:Int)<=9223372036854775807:=by have:x.name.size<=9223372036854775807:=ho.name;omega
  rw[ZE (n:=l-x.name.size) (by omega) (by omega)]
  by_cases g1:l-x.name.size<0
  · rw[iP g1];congr 1;unfold zE;simp only[rem]at g1 ⊢;split<;>omega
  have h1n:¬rem l (x.name.size)<0:=by simp only[rem]at*;split<;>omega
  rw[iN g1,ZAs _ g1]
  rw[P.YAh x.args ho.args.1 _ (by omega) (Int.le_trans (ZCh _ h0) h1)]
  simp only[zA,zB]
  rw[ZB5 _ _ h1n]
  by_cases h2n:rem l (x.name.size+wtL Ty.wt x.args)<0
  · rw[iP h2n];congr 1;unfold zE;simp only[rem]at h2n ⊢;split at h2n<;>split<;>omega
  rw[iN h2n]
  rfl
theorem P.YAJ (a:List Ctor)(ho:a.length<=maxLen)(hf:∀x,x∈a->∀l:Int,0<=l->l<=1048576->F.f1 x l=some (rem l (zE x)))(l:Int)(h0:0<=l)(h1:l<=1048576):F.f3 a l=some (rem l (wtL zE a)):=by
  have hm:(a.length:Int)<=9223372036854775807:=by have:a.length<=9223372036854775807:=ho;omega
  unfold F.f3
  rw[ZE (n:=l-a.length) (by omega) (by omega),ZCK]
  by_cases h:l-a.length<0
  · rw[iP h];simp only[rem];split
    · omega
    · rfl
  · have h2:¬rem l a.length<0:=by rw[←ZAs _ h];exact h
    rw[iN h,ZAs _ h,ZHx (L:=F.f2 a) (fun l i=>by rw[F.f2]) hf _ 0 _ rfl (by omega) (Int.le_trans (ZCh _ h0) h1),ZB5 _ _ h2]
    simp only[zD,zA,zB]
    split
    · next h3=>
      split at h3
      · next h4=>cases h3;congr 1;simp only[rem]at h4 ⊢;split at h4<;>split<;>omega
      · cases h3
    · next h3=>
      split at h3
      · cases h3
      · cases h3;rfl
theorem P.YAj (a:List Ctor)(ho:okL Ctor.Ok a)(l:Int)(h0:0<=l)(h1:l<=1048576):F.f3 a l=some (rem l (wtL zE a)):=
  P.YAJ a ho.1 (fun x hx=>P.YAt x (ho.2 x hx)) l h0 h1
theorem P.YAs (x:Data)(ho:x.Ok)(l:Int)(h0:0<=l)(h1:l<=1048576):F.f4 x l=some (rem l x.wt):=by
  unfold F.f4
  have s1:(x.name.size:Int)<=9223372036854775807:=by have:x.name.size<=9223372036854775807:=ho.name;omega
  rw[ZE (n:=l-x.name.size) (by omega) (by omega)]
  by_cases g1:l-x.name.size<0
  · rw[iP g1];congr 1;unfold Data.wt;simp only[rem]at g1 ⊢;split<;>omega
  have h1n:¬rem l (x.name.size)<0:=by simp only[rem]at*;split<;>omega
  rw[iN g1,ZAs _ g1]
  rw[P.YAj x.ctors ho.ctors _ (by omega) (Int.le_trans (ZCh _ h0) h1)]
  simp only[zA,zB]
  rw[ZB5 _ _ h1n]
  by_cases h2n:rem l (x.name.size+wtL zE x.ctors)<0
  · rw[iP h2n];congr 1;unfold Data.wt;simp only[rem]at h2n ⊢;split at h2n<;>split<;>omega
  rw[iN h2n]
  rfl
theorem P.YAI (a:List Data)(ho:a.length<=maxLen)(hf:∀x,x∈a->∀l:Int,0<=l->l<=1048576->F.f4 x l=some (rem l (Data.wt x)))(l:Int)(h0:0<=l)(h1:l<=1048576):F.f6 a l=some (rem l (wtL Data.wt a)):=by
  have hm:(a.length:Int)<=9223372036854775807:=by have:a.length<=9223372036854775807:=ho;omega
  unfold F.f6
  rw[ZE (n:=l-a.length) (by omega) (by omega),ZCK]
  by_cases h:l-a.length<0
  · rw[iP h];simp only[rem];split
    · omega
    · rfl
  · have h2:¬rem l a.length<0:=by rw[←ZAs _ h];exact h
    rw[iN h,ZAs _ h,ZHx (L:=F.f5 a) (fun l i=>by rw[F.f5]) hf _ 0 _ rfl (by omega) (Int.le_trans (ZCh _ h0) h1),ZB5 _ _ h2]
    simp only[zD,zA,zB]
    split
    · next h3=>
      split at h3
      · next h4=>cases h3;congr 1;simp only[rem]at h4 ⊢;split at h4<;>split<;>omega
      · cases h3
    · next h3=>
      split at h3
      · cases h3
      · cases h3;rfl
theorem P.YAi (a:List Data)(ho:okL Data.Ok a)(l:Int)(h0:0<=l)(h1:l<=1048576):F.f6 a l=some (rem l (wtL Data.wt a)):=
  P.YAI a ho.1 (fun x hx=>P.YAs x (ho.2 x hx)) l h0 h1
theorem P.YJ (a:List Pattern)(ho:a.length<=maxLen)(hf:∀x,x∈a->∀l:Int,0<=l->l<=1048576->F.f7 x l=some (rem l (zF x)))(l:Int)(h0:0<=l)(h1:l<=1048576):F.f8 a l=some (rem l (wtL zF a)):=by
  have hm:(a.length:Int)<=9223372036854775807:=by have:a.length<=9223372036854775807:=ho;omega
  unfold F.f8
  rw[ZE (n:=l-a.length) (by omega) (by omega),ZCK]
  by_cases h:l-a.length<0
  · rw[iP h];simp only[rem];split
    · omega
    · rfl
  · have h2:¬rem l a.length<0:=by rw[←ZAs _ h];exact h
    rw[iN h,ZAs _ h,ZHx (L:=F.f9 a) (fun l i=>by rw[F.f9]) hf _ 0 _ rfl (by omega) (Int.le_trans (ZCh _ h0) h1),ZB5 _ _ h2]
    simp only[zD,zA,zB]
    split
    · next h3=>
      split at h3
      · next h4=>cases h3;congr 1;simp only[rem]at h4 ⊢;split at h4<;>split<;>omega
      · cases h3
    · next h3=>
      split at h3
      · cases h3
      · cases h3;rfl
theorem P.Yv (x:Pattern)(ho:x.Ok)(l:Int)(h0:0<=l)(h1:l<=1048576):F.f7 x l=some (rem l x.wt):=by
  induction x using zH generalizing l with
  |_ x ih=>
  unfold F.f7
  rw[P.YJ x.kids ho.kids.1 (fun k hk l h0 h1=>ih k hk (ho.kids.2 k hk) l h0 h1) _ h0 h1]
  simp only[zA,zB]
  by_cases h1n:rem l (wtL zF x.kids)<0
  · rw[iP h1n];congr 1;rw[zG];simp only[rem]at h1n ⊢;split at h1n<;>split<;>omega
  rw[iN h1n]
  rw[zG]
theorem P.YAr (a:List Pattern)(ho:okL zJ a)(l:Int)(h0:0<=l)(h1:l<=1048576):F.f8 a l=some (rem l (wtL zF a)):=
  P.YJ a ho.1 (fun x hx=>P.Yv x (ho.2 x hx)) l h0 h1
theorem P.YAZ (x:Ty)(hw:x.wt<=67108864):F.f10 x=some x:=by
  rfl
theorem P.YAF (a:List Ty)(hl:a.length<=67108864)(hf:∀x,x∈a->F.f10 x=some x):zY a=some a:=by
  unfold zY
  rw[iP hl,ZGO (a:=a) (L:=F.f11 a) (fun out i=>by rw[F.f11]) hf _ 0 (zC a.length Ty.z) rfl (by simp) rfl]
  rfl
theorem P.YAe (a:List Ty)(hw:wtL Ty.wt a<=67108864):zY a=some a:=
  P.YAF a (by have:=ZB0 Ty.wt a;omega) (fun x hx=>P.YAZ x (by have:=ZAr Ty.wt hx;omega))
theorem P.YAq (x:Ctor)(hw:x.wt<=67108864):zX x=some x:=by
  unfold zX
  have hw2:=hw;unfold zE at hw2
  rw[P.YAe x.args (by omega)]
  simp only[zA,zB]
  all_goals(cases x;rfl)
theorem P.YAH (a:List Ctor)(hl:a.length<=67108864)(hf:∀x,x∈a->zX x=some x):zW a=some a:=by
  unfold zW
  rw[iP hl,ZGO (a:=a) (L:=F.f14 a) (fun out i=>by rw[F.f14]) hf _ 0 (zC a.length Ctor.z) rfl (by simp) rfl]
  rfl
theorem P.YAg (a:List Ctor)(hw:wtL zE a<=67108864):zW a=some a:=
  P.YAH a (by have:=ZB0 zE a;omega) (fun x hx=>P.YAq x (by have:=ZAr zE hx;omega))
theorem P.YAp (x:Data)(hw:x.wt<=67108864):zV x=some x:=by
  unfold zV
  have hw2:=hw;unfold Data.wt at hw2
  rw[P.YAg x.ctors (by omega)]
  simp only[zA,zB]
  all_goals(cases x;rfl)
theorem P.YAG (a:List Data)(hl:a.length<=67108864)(hf:∀x,x∈a->zV x=some x):zU a=some a:=by
  unfold zU
  rw[iP hl,ZGO (a:=a) (L:=F.f17 a) (fun out i=>by rw[F.f17]) hf _ 0 (zC a.length Data.z) rfl (by simp) rfl]
  rfl
theorem P.YAf (a:List Data)(hw:wtL Data.wt a<=67108864):zU a=some a:=
  P.YAG a (by have:=ZB0 Data.wt a;omega) (fun x hx=>P.YAp x (by have:=ZAr Data.wt hx;omega))
theorem P.YI (a:List Pattern)(hl:a.length<=67108864)(hf:∀x,x∈a->zT x=some x):zS a=some a:=by
  unfold zS
  rw[iP hl,ZGO (a:=a) (L:=F.f21 a) (fun out i=>by rw[F.f21]) hf _ 0 (zC a.length zI) rfl (by simp) rfl]
  rfl
theorem P.Yu (x:Pattern)(hw:x.wt<=67108864):zT x=some x:=by
  induction x using zH with
  |_ x ih=>
  unfold zT
  have hw2:=hw;rw[zG]at hw2
  rw[P.YI x.kids (by have:=ZB0 zF x.kids;omega) (fun k hk=>ih k hk (by have:=ZAr zF hk;omega))]
  simp only[zA,zB]
  all_goals(cases x;rfl)
theorem P.YAo (a:List Pattern)(hw:wtL zF a<=67108864):zS a=some a:=
  P.YI a (by have:=ZB0 zF a;omega) (fun x hx=>P.Yu x (by have:=ZAr zF hx;omega))
theorem P.YAv (x y:Ty):zR x y=some (dec (x=y)):=by
  unfold zR
  cases x;cases y
  simp only[Ty.mk.injEq]
  repeat' split
  all_goals first|(rw[dec_of];simp_all[Zr,ZW];done)|(rw[ZA];simp_all[Zr,ZW];done)
theorem P.YAN (a:List Ty)(hf:∀x,x∈a->∀y,zR x y=some (dec (x=y)))(b:List Ty):zQ a b=some (dec (a=b)):=by
  unfold zQ
  by_cases h:a.length=b.length
  · rw[iP h,ZGq (L:=F.f135 a b) (fun i=>by rw[F.f135]) hf h _ 0 rfl]
    by_cases e:a=b
    · simp[e,dec_of]
    · simp[e,ZA]
  · rw[iN h,ZA]
    intro e;rw[e]at h;exact h rfl
theorem P.YAl (a b:List Ty):zQ a b=some (dec (a=b)):=
  P.YAN a (fun x _ y=>P.YAv x y) b
theorem P.YAy (x y:Ctor):zP x y=some (dec (x=y)):=by
  unfold zP
  simp only[Zx,P.YAl,zA,zB,Zr]
  cases x;cases y
  simp only[Ctor.mk.injEq]
  repeat' split
  all_goals first|(rw[dec_of];simp_all[Zr,ZW];done)|(rw[ZA];simp_all[Zr,ZW];done)
theorem P.YAP (a:List Ctor)(hf:∀x,x∈a->∀y,zP x y=some (dec (x=y)))(b:List Ctor):zO a b=some (dec (a=b)):=by
  unfold zO
  by_cases h:a.length=b.length
  · rw[iP h,ZGq (L:=F.f138 a b) (fun i=>by rw[F.f138]) hf h _ 0 rfl]
    by_cases e:a=b
    · simp[e,dec_of]
    · simp[e,ZA]
  · rw[iN h,ZA]
    intro e;rw[e]at h;exact h rfl
theorem P.YAn (a b:List Ctor):zO a b=some (dec (a=b)):=
  P.YAP a (fun x _ y=>P.YAy x y) b
theorem P.YAx (x y:Data):zN x y=some (dec (x=y)):=by
  unfold zN
  simp only[Zx,P.YAn,zA,zB,Zr]
  cases x;cases y
  simp only[Data.mk.injEq]
  repeat' split
  all_goals first|(rw[dec_of];simp_all[Zr,ZW];done)|(rw[ZA];simp_all[Zr,ZW];done)
theorem P.YAO (a:List Data)(hf:∀x,x∈a->∀y,zN x y=some (dec (x=y)))(b:List Data):zM a b=some (dec (a=b)):=by
  unfold zM
  by_cases h:a.length=b.length
  · rw[iP h,ZGq (L:=F.f141 a b) (fun i=>by rw[F.f141]) hf h _ 0 rfl]
    by_cases e:a=b
    · simp[e,dec_of]
    · simp[e,ZA]
  · rw[iN h,ZA]
    intro e;rw[e]at h;exact h rfl
theorem P.YAm (a b:List Data):zM a b=some (dec (a=b)):=
  P.YAO a (fun x _ y=>P.YAx x y) b
theorem P.YN (a:List Pattern)(hf:∀x,x∈a->∀y,zL x y=some (dec (x=y)))(b:List Pattern):zK a b=some (dec (a=b)):=by
  unfold zK
  by_cases h:a.length=b.length
  · rw[iP h,ZGq (L:=F.f145 a b) (fun i=>by rw[F.f145]) hf h _ 0 rfl]
    by_cases e:a=b
    · simp[e,dec_of]
    · simp[e,ZA]
  · rw[iN h,ZA]
    intro e;rw[e]at h;exact h rfl
theorem P.Yw (x y:Pattern):zL x y=some (dec (x=y)):=by
  induction x using zH generalizing y with
  |_ x ih=>
  unfold zL
  simp only[P.YN x.kids (fun k hk y=>ih k hk y),zA,zB,Zr]
  cases x;cases y
  simp only[Pattern.mk.injEq]
  repeat' split
  all_goals first|(rw[dec_of];simp_all[Zr,ZW];done)|(rw[ZA];simp_all[Zr,ZW];done)
theorem P.YAw (a b:List Pattern):zK a b=some (dec (a=b)):=
  P.YN a (fun x _ y=>P.Yw x y) b
end Go.Vl
