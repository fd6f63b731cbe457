/- Part. -/
import Derived.Test.YtnockmfobogfpaaGreatExactForcedFirstF
set_option linter.all false
open Option renaming bind_eq_bind->zA,bind_some->zB
open List renaming replicate->zC,drop_zero->zD,length_nil->zE,length_cons->zF,length_append->zG,nil_append->zH
namespace Go.Vl
open Go Go.RowKit
open Ctor renaming wt->zI
open Pattern renaming wt->zJ,wt_eq->zK,ind->zL,z->zM,Ok->zN
open F renaming f254->zO,f252->zP,f250->zQ,f249->zR,f248->zS,f246->zT,f243->zU,f242->zV,f241->zW,f239->zX,f238->zY,f236->zZ,f235->yA,f233->yB,f232->yC,f230->yD,f35->yE,f34->yF,f33->yG,f31->yH,f28->yI,f27->yJ,f26->yK,f24->yL,f23->yM,f21->yN,f20->yO,f16->yP,f15->yQ,f14->yR,f12->yS,f10->yT
open Clause renaming wt->yU
open Go.IntKind (i64)
theorem P.YBV (a:List Ty)(ho:a.length<=maxLen)(l:Int)(h0:0<=l)(h1:l<=1048576):F.f2 a l=some (rem l (wtL Ty.wt a)):=by
  have hm:(a.length:Int)<=9223372036854775807:=by have:a.length<=9223372036854775807:=ho;omega
  have hw:wtL Ty.wt a=a.length:=ZLa (fun _=>rfl) a
  unfold F.f2
  rw[ZD (n:=l-a.length) (by omega) (by omega),hw]
  by_cases h:l-a.length<0
  · rw[iP h];simp only[rem];split
    · omega
    · rfl
  · rw[iN h,ZAQ _ h]
theorem P.YBn (x:Ctor)(ho:x.Ok)(l:Int)(h0:0<=l)(h1:l<=1048576):F.f3 x l=some (rem l x.wt):=by
  unfold F.f3
  have s1:(x.name.size:Int)<=9223372036854775807:=by have:x.name.size<=9223372036854775807:=ho.name;omega
  rw[ZD (n:=l-x.name.size) (by omega) (by omega)]
  by_cases g1:l-x.name.size<0
  · rw[iP g1];congr 1;unfold zI;simp only[rem]at g1 ⊢;split<;>omega
  have h1n:¬rem l (x.name.size)<0:=by simp only[rem]at*;split<;>omega
  rw[iN g1,ZAQ _ g1]
  rw[P.YBV x.args ho.args.1 _ (by omega) (Int.le_trans (ZBs _ h0) h1)]
  simp only[zA,zB]
  rw[ZBS _ _ h1n]
  by_cases h2n:rem l (x.name.size+wtL Ty.wt x.args)<0
  · rw[iP h2n];congr 1;unfold zI;simp only[rem]at h2n ⊢;split at h2n<;>split<;>omega
  rw[iN h2n]
  rfl
theorem P.YAn (a:List Ctor)(ho:a.length<=maxLen)(hf:∀x,x∈a->∀l:Int,0<=l->l<=1048576->F.f3 x l=some (rem l (zI x)))(l:Int)(h0:0<=l)(h1:l<=1048576):F.f5 a l=some (rem l (wtL zI a)):=by
  have hm:(a.length:Int)<=9223372036854775807:=by have:a.length<=9223372036854775807:=ho;omega
  unfold F.f5
  rw[ZD (n:=l-a.length) (by omega) (by omega),ZDV]
  by_cases h:l-a.length<0
  · rw[iP h];simp only[rem];split
    · omega
    · rfl
  · have h2:¬rem l a.length<0:=by rw[←ZAQ _ h];exact h
    rw[iN h,ZAQ _ h,ZFu (L:=F.f4 a) (fun l i=>by rw[F.f4]) hf _ 0 _ rfl (by omega) (Int.le_trans (ZBs _ h0) h1),ZBS _ _ h2]
    simp only[zD,zA,zB]
    split
    · next h3=>
      split at h3
      · next h4=>cases h3;congr 1;simp only[rem]at h4 ⊢;split at h4<;>split<;>omega
      · cases h3
    · next h3=>
      split at h3
      · cases h3
      · cases h3;rfl
theorem P.YBX (a:List Ctor)(ho:okL Ctor.Ok a)(l:Int)(h0:0<=l)(h1:l<=1048576):F.f5 a l=some (rem l (wtL zI a)):=
  P.YAn a ho.1 (fun x hx=>P.YBn x (ho.2 x hx)) l h0 h1
theorem P.YBm (x:Data)(ho:x.Ok)(l:Int)(h0:0<=l)(h1:l<=1048576):F.f6 x l=some (rem l x.wt):=by
  unfold F.f6
  have s1:(x.name.size:Int)<=9223372036854775807:=by have:x.name.size<=9223372036854775807:=ho.name;omega
  rw[ZD (n:=l-x.name.size) (by omega) (by omega)]
  by_cases g1:l-x.name.size<0
  · rw[iP g1];congr 1;unfold Data.wt;simp only[rem]at g1 ⊢;split<;>omega
  have h1n:¬rem l (x.name.size)<0:=by simp only[rem]at*;split<;>omega
  rw[iN g1,ZAQ _ g1]
  rw[P.YBX x.ctors ho.ctors _ (by omega) (Int.le_trans (ZBs _ h0) h1)]
  simp only[zA,zB]
  rw[ZBS _ _ h1n]
  by_cases h2n:rem l (x.name.size+wtL zI x.ctors)<0
  · rw[iP h2n];congr 1;unfold Data.wt;simp only[rem]at h2n ⊢;split at h2n<;>split<;>omega
  rw[iN h2n]
  rfl
theorem P.YAm (a:List Data)(ho:a.length<=maxLen)(hf:∀x,x∈a->∀l:Int,0<=l->l<=1048576->F.f6 x l=some (rem l (Data.wt x)))(l:Int)(h0:0<=l)(h1:l<=1048576):F.f8 a l=some (rem l (wtL Data.wt a)):=by
  have hm:(a.length:Int)<=9223372036854775807:=by have:a.length<=9223372036854775807:=ho;omega
  unfold F.f8
  rw[ZD (n:=l-a.length) (by omega) (by omega),ZDV]
  by_cases h:l-a.length<0
  · rw[iP h];simp only[rem];split
    · omega
    · rfl
  · have h2:¬rem l a.length<0:=by rw[←ZAQ _ h];exact h
    rw[iN h,ZAQ _ h,ZFu (L:=F.f7 a) (fun l i=>by rw[F.f7]) hf _ 0 _ rfl (by omega) (Int.le_trans (ZBs _ h0) h1),ZBS _ _ h2]
    simp only[zD,zA,zB]
    split
    · next h3=>
      split at h3
      · next h4=>cases h3;congr 1;simp only[rem]at h4 ⊢;split at h4<;>split<;>omega
      · cases h3
    · next h3=>
      split at h3
      · cases h3
      · cases h3;rfl
theorem P.YBW (a:List Data)(ho:okL Data.Ok a)(l:Int)(h0:0<=l)(h1:l<=1048576):F.f8 a l=some (rem l (wtL Data.wt a)):=
  P.YAm a ho.1 (fun x hx=>P.YBm x (ho.2 x hx)) l h0 h1
theorem P.YM (a:List Pattern)(ho:a.length<=maxLen)(hf:∀x,x∈a->∀l:Int,0<=l->l<=1048576->F.f9 x l=some (rem l (zJ x)))(l:Int)(h0:0<=l)(h1:l<=1048576):yT a l=some (rem l (wtL zJ a)):=by
  have hm:(a.length:Int)<=9223372036854775807:=by have:a.length<=9223372036854775807:=ho;omega
  unfold yT
  rw[ZD (n:=l-a.length) (by omega) (by omega),ZDV]
  by_cases h:l-a.length<0
  · rw[iP h];simp only[rem];split
    · omega
    · rfl
  · have h2:¬rem l a.length<0:=by rw[←ZAQ _ h];exact h
    rw[iN h,ZAQ _ h,ZFu (L:=F.f11 a) (fun l i=>by rw[F.f11]) hf _ 0 _ rfl (by omega) (Int.le_trans (ZBs _ h0) h1),ZBS _ _ h2]
    simp only[zD,zA,zB]
    split
    · next h3=>
      split at h3
      · next h4=>cases h3;congr 1;simp only[rem]at h4 ⊢;split at h4<;>split<;>omega
      · cases h3
    · next h3=>
      split at h3
      · cases h3
      · cases h3;rfl
theorem P.YAJ (x:Pattern)(ho:x.Ok)(l:Int)(h0:0<=l)(h1:l<=1048576):F.f9 x l=some (rem l x.wt):=by
  induction x using zL generalizing l with
  |_ x ih=>
  unfold F.f9
  rw[P.YM x.kids ho.kids.1 (fun k hk l h0 h1=>ih k hk (ho.kids.2 k hk) l h0 h1) _ h0 h1]
  simp only[zA,zB]
  by_cases h1n:rem l (wtL zJ x.kids)<0
  · rw[iP h1n];congr 1;rw[zK];simp only[rem]at h1n ⊢;split at h1n<;>split<;>omega
  rw[iN h1n]
  rw[zK]
theorem P.YBl (a:List Pattern)(ho:okL zN a)(l:Int)(h0:0<=l)(h1:l<=1048576):yT a l=some (rem l (wtL zJ a)):=
  P.YM a ho.1 (fun x hx=>P.YAJ x (ho.2 x hx)) l h0 h1
theorem P.YBM (x:Clause)(ho:x.Ok)(l:Int)(h0:0<=l)(h1:l<=1048576):yS x l=some (rem l x.wt):=by
  unfold yS
  rw[P.YAJ x.pat ho.pat _ h0 h1]
  simp only[zA,zB]
  by_cases h1n:rem l (zJ x.pat)<0
  · rw[iP h1n];congr 1;unfold yU;simp only[rem]at h1n ⊢;split at h1n<;>split<;>omega
  rw[iN h1n]
  rfl
theorem P.YAS (a:List Clause)(ho:a.length<=maxLen)(hf:∀x,x∈a->∀l:Int,0<=l->l<=1048576->yS x l=some (rem l (yU x)))(l:Int)(h0:0<=l)(h1:l<=1048576):yR a l=some (rem l (wtL yU a)):=by
  have hm:(a.length:Int)<=9223372036854775807:=by have:a.length<=9223372036854775807:=ho;omega
  unfold yR
  rw[ZD (n:=l-a.length) (by omega) (by omega),ZDV]
  by_cases h:l-a.length<0
  · rw[iP h];simp only[rem];split
    · omega
    · rfl
  · have h2:¬rem l a.length<0:=by rw[←ZAQ _ h];exact h
    rw[iN h,ZAQ _ h,ZFu (L:=F.f13 a) (fun l i=>by rw[F.f13]) hf _ 0 _ rfl (by omega) (Int.le_trans (ZBs _ h0) h1),ZBS _ _ h2]
    simp only[zD,zA,zB]
    split
    · next h3=>
      split at h3
      · next h4=>cases h3;congr 1;simp only[rem]at h4 ⊢;split at h4<;>split<;>omega
      · cases h3
    · next h3=>
      split at h3
      · cases h3
      · cases h3;rfl
theorem P.YA9 (a:List Clause)(ho:okL Clause.Ok a)(l:Int)(h0:0<=l)(h1:l<=1048576):yR a l=some (rem l (wtL yU a)):=
  P.YAS a ho.1 (fun x hx=>P.YBM x (ho.2 x hx)) l h0 h1
theorem P.Yg (a:List Value)(ho:a.length<=maxLen)(hf:∀x,x∈a->∀l:Int,0<=l->l<=1048576->yQ x l=some (rem l (Value.wt x)))(l:Int)(h0:0<=l)(h1:l<=1048576):yP a l=some (rem l (wtL Value.wt a)):=by
  have hm:(a.length:Int)<=9223372036854775807:=by have:a.length<=9223372036854775807:=ho;omega
  unfold yP
  rw[ZD (n:=l-a.length) (by omega) (by omega),ZDV]
  by_cases h:l-a.length<0
  · rw[iP h];simp only[rem];split
    · omega
    · rfl
  · have h2:¬rem l a.length<0:=by rw[←ZAQ _ h];exact h
    rw[iN h,ZAQ _ h,ZFu (L:=F.f17 a) (fun l i=>by rw[F.f17]) hf _ 0 _ rfl (by omega) (Int.le_trans (ZBs _ h0) h1),ZBS _ _ h2]
    simp only[zD,zA,zB]
    split
    · next h3=>
      split at h3
      · next h4=>cases h3;congr 1;simp only[rem]at h4 ⊢;split at h4<;>split<;>omega
      · cases h3
    · next h3=>
      split at h3
      · cases h3
      · cases h3;rfl
theorem P.YA5 (x:Value)(ho:x.Ok)(l:Int)(h0:0<=l)(h1:l<=1048576):yQ x l=some (rem l x.wt):=by
  induction x using Value.ind generalizing l with
  |_ x ih=>
  unfold yQ
  rw[P.Yg x.kids ho.kids.1 (fun k hk l h0 h1=>ih k hk (ho.kids.2 k hk) l h0 h1) _ h0 h1]
  simp only[zA,zB]
  by_cases h1n:rem l (wtL Value.wt x.kids)<0
  · rw[iP h1n];congr 1;rw[Value.wt_eq];simp only[rem]at h1n ⊢;split at h1n<;>split<;>omega
  rw[iN h1n]
  rw[Value.wt_eq]
theorem P.YBv (a:List Value)(ho:okL Value.Ok a)(l:Int)(h0:0<=l)(h1:l<=1048576):yP a l=some (rem l (wtL Value.wt a)):=
  P.Yg a ho.1 (fun x hx=>P.YA5 x (ho.2 x hx)) l h0 h1
theorem P.YBK (x:Ty)(hw:x.wt<=67108864):F.f18 x=some x:=by
  rfl
theorem P.YAj (a:List Ty)(hl:a.length<=67108864)(hf:∀x,x∈a->F.f18 x=some x):yO a=some a:=by
  unfold yO
  rw[iP hl,ZEV (a:=a) (L:=F.f19 a) (fun out i=>by rw[F.f19]) hf _ 0 (zC a.length Ty.z) rfl (by simp) rfl]
  rfl
theorem P.YBR (a:List Ty)(hw:wtL Ty.wt a<=67108864):yO a=some a:=
  P.YAj a (by have:=ZAN Ty.wt a;omega) (fun x hx=>P.YBK x (by have:=Zf Ty.wt hx;omega))
theorem P.YBk (x:Ctor)(hw:x.wt<=67108864):yN x=some x:=by
  unfold yN
  have hw2:=hw;unfold zI at hw2
  rw[P.YBR x.args (by omega)]
  simp only[zA,zB]
  all_goals(cases x;rfl)
theorem P.YAl (a:List Ctor)(hl:a.length<=67108864)(hf:∀x,x∈a->yN x=some x):yM a=some a:=by
  unfold yM
  rw[iP hl,ZEV (a:=a) (L:=F.f22 a) (fun out i=>by rw[F.f22]) hf _ 0 (zC a.length Ctor.z) rfl (by simp) rfl]
  rfl
theorem P.YBU (a:List Ctor)(hw:wtL zI a<=67108864):yM a=some a:=
  P.YAl a (by have:=ZAN zI a;omega) (fun x hx=>P.YBk x (by have:=Zf zI hx;omega))
theorem P.YBj (x:Data)(hw:x.wt<=67108864):yL x=some x:=by
  unfold yL
  have hw2:=hw;unfold Data.wt at hw2
  rw[P.YBU x.ctors (by omega)]
  simp only[zA,zB]
  all_goals(cases x;rfl)
theorem P.YAk (a:List Data)(hl:a.length<=67108864)(hf:∀x,x∈a->yL x=some x):yK a=some a:=by
  unfold yK
  rw[iP hl,ZEV (a:=a) (L:=F.f25 a) (fun out i=>by rw[F.f25]) hf _ 0 (zC a.length Data.z) rfl (by simp) rfl]
  rfl
theorem P.YBT (a:List Data)(hw:wtL Data.wt a<=67108864):yK a=some a:=
  P.YAk a (by have:=ZAN Data.wt a;omega) (fun x hx=>P.YBj x (by have:=Zf Data.wt hx;omega))
theorem P.YL (a:List Pattern)(hl:a.length<=67108864)(hf:∀x,x∈a->yJ x=some x):yI a=some a:=by
  unfold yI
  rw[iP hl,ZEV (a:=a) (L:=F.f29 a) (fun out i=>by rw[F.f29]) hf _ 0 (zC a.length zM) rfl (by simp) rfl]
  rfl
theorem P.YAI (x:Pattern)(hw:x.wt<=67108864):yJ x=some x:=by
  induction x using zL with
  |_ x ih=>
  unfold yJ
  have hw2:=hw;rw[zK]at hw2
  rw[P.YL x.kids (by have:=ZAN zJ x.kids;omega) (fun k hk=>ih k hk (by have:=Zf zJ hk;omega))]
  simp only[zA,zB]
  all_goals(cases x;rfl)
theorem P.YBi (a:List Pattern)(hw:wtL zJ a<=67108864):yI a=some a:=
  P.YL a (by have:=ZAN zJ a;omega) (fun x hx=>P.YAI x (by have:=Zf zJ hx;omega))
theorem P.YBS (x:Guard)(hw:x.wt<=67108864):F.f30 x=some x:=by
  rfl
theorem P.YBL (x:Clause)(hw:x.wt<=67108864):yH x=some x:=by
  unfold yH
  have hw2:=hw;unfold yU at hw2
  rw[P.YAI x.pat (by omega)]
  simp only[zA,zB]
  rw[P.YBS x.guard (by simp[Guard.wt])]
  simp only[zA,zB]
  all_goals(cases x;rfl)
theorem P.YAR (a:List Clause)(hl:a.length<=67108864)(hf:∀x,x∈a->yH x=some x):yG a=some a:=by
  unfold yG
  rw[iP hl,ZEV (a:=a) (L:=F.f32 a) (fun out i=>by rw[F.f32]) hf _ 0 (zC a.length Clause.z) rfl (by simp) rfl]
  rfl
theorem P.YA8 (a:List Clause)(hw:wtL yU a<=67108864):yG a=some a:=
  P.YAR a (by have:=ZAN yU a;omega) (fun x hx=>P.YBL x (by have:=Zf yU hx;omega))
theorem P.Yf (a:List Value)(hl:a.length<=67108864)(hf:∀x,x∈a->yF x=some x):yE a=some a:=by
  unfold yE
  rw[iP hl,ZEV (a:=a) (L:=F.f36 a) (fun out i=>by rw[F.f36]) hf _ 0 (zC a.length Value.z) rfl (by simp) rfl]
  rfl
theorem P.YA4 (x:Value)(hw:x.wt<=67108864):yF x=some x:=by
  induction x using Value.ind with
  |_ x ih=>
  unfold yF
  have hw2:=hw;rw[Value.wt_eq]at hw2
  rw[P.Yf x.kids (by have:=ZAN Value.wt x.kids;omega) (fun k hk=>ih k hk (by have:=Zf Value.wt hk;omega))]
  simp only[zA,zB]
  all_goals(cases x;rfl)
theorem P.YBu (a:List Value)(hw:wtL Value.wt a<=67108864):yE a=some a:=
  P.Yf a (by have:=ZAN Value.wt a;omega) (fun x hx=>P.YA4 x (by have:=Zf Value.wt hx;omega))
theorem P.YBr (a:List Int)(b:List Int):yD a b=some (dec (a=b)):=by
  unfold yD
  by_cases h:a.length=b.length
  · rw[iP h,ZOW (L:=F.f229 a b) (fun i=>by rw[F.f229]) h _ 0 rfl]
    by_cases e:a=b
    · simp[e,dec_of]
    · simp[e,ZB]
  · rw[iN h,ZB]
    intro e;rw[e]at h;exact h rfl
theorem P.YAv (a:List (List Int))(hf:∀x,x∈a->∀y,yD x y=some (dec (x=y)))(b:List (List Int)):yC a b=some (dec (a=b)):=by
  unfold yC
  by_cases h:a.length=b.length
  · rw[iP h,ZDD (L:=F.f231 a b) (fun i=>by rw[F.f231]) hf h _ 0 rfl]
    by_cases e:a=b
    · simp[e,dec_of]
    · simp[e,ZB]
  · rw[iN h,ZB]
    intro e;rw[e]at h;exact h rfl
theorem P.YBd (a b:List (List Int)):yC a b=some (dec (a=b)):=
  P.YAv a (fun x _ y=>P.YBr x y) b
theorem P.YBp (x y:Ty):yB x y=some (dec (x=y)):=by
  unfold yB
  cases x;cases y
  simp only[Ty.mk.injEq]
  repeat' split
  all_goals first|(rw[dec_of];simp_all[Zd,ZO];done)|(rw[ZB];simp_all[Zd,ZO];done)
theorem P.YAu (a:List Ty)(hf:∀x,x∈a->∀y,yB x y=some (dec (x=y)))(b:List Ty):yA a b=some (dec (a=b)):=by
  unfold yA
  by_cases h:a.length=b.length
  · rw[iP h,ZDD (L:=F.f234 a b) (fun i=>by rw[F.f234]) hf h _ 0 rfl]
    by_cases e:a=b
    · simp[e,dec_of]
    · simp[e,ZB]
  · rw[iN h,ZB]
    intro e;rw[e]at h;exact h rfl
theorem P.YBc (a b:List Ty):yA a b=some (dec (a=b)):=
  P.YAu a (fun x _ y=>P.YBp x y) b
theorem P.YBt (x y:Ctor):zZ x y=some (dec (x=y)):=by
  unfold zZ
  simp only[ZAL,P.YBc,zA,zB,Zd]
  cases x;cases y
  simp only[Ctor.mk.injEq]
  repeat' split
  all_goals first|(rw[dec_of];simp_all[Zd,ZO];done)|(rw[ZB];simp_all[Zd,ZO];done)
theorem P.YAx (a:List Ctor)(hf:∀x,x∈a->∀y,zZ x y=some (dec (x=y)))(b:List Ctor):zY a b=some (dec (a=b)):=by
  unfold zY
  by_cases h:a.length=b.length
  · rw[iP h,ZDD (L:=F.f237 a b) (fun i=>by rw[F.f237]) hf h _ 0 rfl]
    by_cases e:a=b
    · simp[e,dec_of]
    · simp[e,ZB]
  · rw[iN h,ZB]
    intro e;rw[e]at h;exact h rfl
theorem P.YBg (a b:List Ctor):zY a b=some (dec (a=b)):=
  P.YAx a (fun x _ y=>P.YBt x y) b
theorem P.YBs (x y:Data):zX x y=some (dec (x=y)):=by
  unfold zX
  simp only[ZAL,P.YBg,zA,zB,Zd]
  cases x;cases y
  simp only[Data.mk.injEq]
  repeat' split
  all_goals first|(rw[dec_of];simp_all[Zd,ZO];done)|(rw[ZB];simp_all[Zd,ZO];done)
theorem P.YAw (a:List Data)(hf:∀x,x∈a->∀y,zX x y=some (dec (x=y)))(b:List Data):zW a b=some (dec (a=b)):=by
  unfold zW
  by_cases h:a.length=b.length
  · rw[iP h,ZDD (L:=F.f240 a b) (fun i=>by rw[F.f240]) hf h _ 0 rfl]
    by_cases e:a=b
    · simp[e,dec_of]
    · simp[e,ZB]
  · rw[iN h,ZB]
    intro e;rw[e]at h;exact h rfl
theorem P.YBf (a b:List Data):zW a b=some (dec (a=b)):=
  P.YAw a (fun x _ y=>P.YBs x y) b
theorem P.YR (a:List Pattern)(hf:∀x,x∈a->∀y,zV x y=some (dec (x=y)))(b:List Pattern):zU a b=some (dec (a=b)):=by
  unfold zU
  by_cases h:a.length=b.length
  · rw[iP h,ZDD (L:=F.f244 a b) (fun i=>by rw[F.f244]) hf h _ 0 rfl]
    by_cases e:a=b
    · simp[e,dec_of]
    · simp[e,ZB]
  · rw[iN h,ZB]
    intro e;rw[e]at h;exact h rfl
theorem P.YAQ (x y:Pattern):zV x y=some (dec (x=y)):=by
  induction x using zL generalizing y with
  |_ x ih=>
  unfold zV
  simp only[P.YR x.kids (fun k hk y=>ih k hk y),zA,zB,Zd]
  cases x;cases y
  simp only[Pattern.mk.injEq]
  repeat' split
  all_goals first|(rw[dec_of];simp_all[Zd,ZO];done)|(rw[ZB];simp_all[Zd,ZO];done)
theorem P.YBq (a b:List Pattern):zU a b=some (dec (a=b)):=
  P.YR a (fun x _ y=>P.YAQ x y) b
theorem P.YBe (x y:Guard):F.f245 x y=some (dec (x=y)):=by
  unfold F.f245
  cases x;cases y
  simp only[Guard.mk.injEq]
  repeat' split
  all_goals first|(rw[dec_of];simp_all[Zd,ZO];done)|(rw[ZB];simp_all[Zd,ZO];done)
theorem P.YBQ (x y:Clause):zT x y=some (dec (x=y)):=by
  unfold zT
  simp only[P.YAQ,P.YBe,zA,zB,Zd]
  cases x;cases y
  simp only[Clause.mk.injEq]
  repeat' split
  all_goals first|(rw[dec_of];simp_all[Zd,ZO];done)|(rw[ZB];simp_all[Zd,ZO];done)
theorem P.YAc (a:List Clause)(hf:∀x,x∈a->∀y,zT x y=some (dec (x=y)))(b:List Clause):zS a b=some (dec (a=b)):=by
  unfold zS
  by_cases h:a.length=b.length
  · rw[iP h,ZDD (L:=F.f247 a b) (fun i=>by rw[F.f247]) hf h _ 0 rfl]
    by_cases e:a=b
    · simp[e,dec_of]
    · simp[e,ZB]
  · rw[iN h,ZB]
    intro e;rw[e]at h;exact h rfl
theorem P.YBJ (a b:List Clause):zS a b=some (dec (a=b)):=
  P.YAc a (fun x _ y=>P.YBQ x y) b
theorem P.Ym (a:List Value)(hf:∀x,x∈a->∀y,zR x y=some (dec (x=y)))(b:List Value):zQ a b=some (dec (a=b)):=by
  unfold zQ
  by_cases h:a.length=b.length
  · rw[iP h,ZDD (L:=F.f251 a b) (fun i=>by rw[F.f251]) hf h _ 0 rfl]
    by_cases e:a=b
    · simp[e,dec_of]
    · simp[e,ZB]
  · rw[iN h,ZB]
    intro e;rw[e]at h;exact h rfl
theorem P.YA7 (x y:Value):zR x y=some (dec (x=y)):=by
  induction x using Value.ind generalizing y with
  |_ x ih=>
  unfold zR
  simp only[P.Ym x.kids (fun k hk y=>ih k hk y),zA,zB,Zd]
  cases x;cases y
  simp only[Value.mk.injEq]
  repeat' split
  all_goals first|(rw[dec_of];simp_all[Zd,ZO];done)|(rw[ZB];simp_all[Zd,ZO];done)
theorem P.YBy (a b:List Value):zQ a b=some (dec (a=b)):=
  P.Ym a (fun x _ y=>P.YA7 x y) b
-- held
theorem P.Yl :∀(r D:List Int) (k:Int),0<=k->k+(cntI r:Int)<=9223372036854775807->zP (D++(mkI r k).1) k D.length=some (.go (mkI r k).2)
  | [],D,k,_,_=>by
    rw[zP,iN (by simp[mkI])];rfl
  |x::r,D,k,h0,h=>by
    simp only[cntI,zF]at h
    obtain⟨A,hA⟩:∃A,A=(D++[k])++(mkI r (i64.wrap (k+1))).1:=⟨_,rfl⟩
    have h1:D++(mkI (x::r) k).1=A:=by rw[hA];simp[mkI]
    have hlt:D.length<A.length:=by rw[hA];simp
    have hget:A[D.length]? =some k:=by rw[hA];simp
    have w:i64.wrap (k+1)=k+1:=ZD (by omega) (by omega)
    have ihr:=P.Yl r (D++[k]) (i64.wrap (k+1)) (by rw[w];omega) (by rw[w];simp only[cntI];omega)
    rw[←hA]at ihr
    simp only[zG,zF,zE,Nat.zero_add]at ihr
    rw[h1,zP,iP hlt,hget]
    simp only[zA,zB,if_true]
    exact ihr
theorem P.YBP (l:List Int)(k:Int)(h0:0<=k)(h:k+(cntI l:Int)<=9223372036854775807):F.f253 (mkI l k).1 k=some (mkI l k).2:=by
  unfold F.f253
  have:=P.Yl l [] k h0 h
  simp only[zH,zE]at this
  rw[this]
  rfl
theorem P.Ya :∀(r D:List (List Int)) (k:Int),0<=k->k+(cntII r:Int)<=9223372036854775807->zO (D++(ZDI r k).1) k D.length=some (.go (ZDI r k).2)
  | [],D,k,_,_=>by
    rw[zO,iN (by simp[ZDI])];rfl
  |x::r,D,k,h0,h=>by
    simp only[cntII]at h
    have w:=ZHV x k h0 (by omega)
    obtain⟨A,hA⟩:∃A,A=(D++[(mkI x k).1])++(ZDI r (mkI x k).2).1:=⟨_,rfl⟩
    have h1:D++(ZDI (x::r) k).1=A:=by rw[hA];simp[ZDI]
    have hlt:D.length<A.length:=by rw[hA];simp
    have hget:A[D.length]? =some (mkI x k).1:=by rw[hA];simp
    have ihr:=P.Ya r (D++[(mkI x k).1]) (mkI x k).2 (by rw[w];omega) (by rw[w];omega)
    rw[←hA]at ihr
    simp only[zG,zF,zE,Nat.zero_add]at ihr
    rw[h1,zO,iP hlt,hget]
    simp only[zA,zB]
    rw[P.YBP x k h0 (by omega)]
    simp only[zB]
    rw[iN (by rw[w];omega)]
    exact ihr
theorem P.YBI (l:List (List Int))(k:Int)(h0:0<=k)(h:k+(cntII l:Int)<=9223372036854775807):F.f255 (ZDI l k).1 k=some (ZDI l k).2:=by
  unfold F.f255
  have:=P.Ya l [] k h0 h
  simp only[zH,zE]at this
  rw[this]
  rfl
end Go.Vl
