/- Part. -/
import Derived.Test.YtojdombnghnbmaaGreatExactRunStepsF
set_option linter.all false
open Option renaming bind_eq_bind->zA,bind_some->zB
open List renaming replicate->zC,length_nil->zD,drop_zero->zE,nil_append->zF,length_append->zG,length_cons->zH
namespace Go.Vl
open Go Go.RowKit
open Ctor renaming wt->zI
open Pattern renaming wt->zJ,wt_eq->zK,ind->zL,z->zM,Ok->zN
open F renaming f238->zO,f240->zP,f239->zQ,f237->zR,f235->zS,f232->zT,f231->zU,f230->zV,f228->zW,f227->zX,f225->zY,f224->zZ,f222->yA,f221->yB,f219->yC,f217->yD,f216->yE,f35->yF,f34->yG,f33->yH,f31->yI,f28->yJ,f27->yK,f26->yL,f24->yM,f23->yN,f21->yO,f20->yP,f16->yQ,f15->yR,f14->yS,f12->yT,f10->yU
open Clause renaming wt->yV
open Go.Vl.Bind renaming mkL->yW,mkE->yX,cntL->yY,cnt->yZ
open Go.IntKind (i64)
theorem P.YBV (a:List Ty)(ho:a.length<=maxLen)(l:Int)(h0:0<=l)(h1:l<=1048576):F.f2 a l=some (rem l (wtL Ty.wt a)):=by
  have hm:(a.length:Int)<=9223372036854775807:=by have:a.length<=9223372036854775807:=ho;omega
  have hw:wtL Ty.wt a=a.length:=ZK6 (fun _=>rfl) a
  unfold F.f2
  rw[ZE (n:=l-a.length) (by omega) (by omega),hw]
  by_cases h:l-a.length<0
  · rw[iP h];simp only[rem];split
    · omega
    · rfl
  · rw[iN h,ZAO _ h]
theorem P.YBl (x:Ctor)(ho:x.Ok)(l:Int)(h0:0<=l)(h1:l<=1048576):F.f3 x l=some (rem l x.wt):=by
  unfold F.f3
  have s1:(x.name.size:Int)<=9223372036854775807:=by have:x.name.size<=9223372036854775807:=ho.name;omega
  rw[ZE (n:=l-x.name.size) (by omega) (by omega)]
  by_cases g1:l-x.name.size<0
  · rw[iP g1];congr 1;unfold zI;simp only[rem]at g1 ⊢;split<;>omega
  have h1n:¬rem l (x.name.size)<0:=by simp only[rem]at*;split<;>omega
  rw[iN g1,ZAO _ g1]
  rw[P.YBV x.args ho.args.1 _ (by omega) (Int.le_trans (ZBl _ h0) h1)]
  simp only[zA,zB]
  rw[ZBI _ _ h1n]
  by_cases h2n:rem l (x.name.size+wtL Ty.wt x.args)<0
  · rw[iP h2n];congr 1;unfold zI;simp only[rem]at h2n ⊢;split at h2n<;>split<;>omega
  rw[iN h2n]
  rfl
theorem P.YAm (a:List Ctor)(ho:a.length<=maxLen)(hf:∀x,x∈a->∀l:Int,0<=l->l<=1048576->F.f3 x l=some (rem l (zI x)))(l:Int)(h0:0<=l)(h1:l<=1048576):F.f5 a l=some (rem l (wtL zI a)):=by
  have hm:(a.length:Int)<=9223372036854775807:=by have:a.length<=9223372036854775807:=ho;omega
  unfold F.f5
  rw[ZE (n:=l-a.length) (by omega) (by omega),ZDL]
  by_cases h:l-a.length<0
  · rw[iP h];simp only[rem];split
    · omega
    · rfl
  · have h2:¬rem l a.length<0:=by rw[←ZAO _ h];exact h
    rw[iN h,ZAO _ h,ZFb (L:=F.f4 a) (fun l i=>by rw[F.f4]) hf _ 0 _ rfl (by omega) (Int.le_trans (ZBl _ h0) h1),ZBI _ _ h2]
    simp only[zE,zA,zB]
    split
    · next h3=>
      split at h3
      · next h4=>cases h3;congr 1;simp only[rem]at h4 ⊢;split at h4<;>split<;>omega
      · cases h3
    · next h3=>
      split at h3
      · cases h3
      · cases h3;rfl
theorem P.YBX (a:List Ctor)(ho:okL Ctor.Ok a)(l:Int)(h0:0<=l)(h1:l<=1048576):F.f5 a l=some (rem l (wtL zI a)):=
  P.YAm a ho.1 (fun x hx=>P.YBl x (ho.2 x hx)) l h0 h1
theorem P.YBk (x:Data)(ho:x.Ok)(l:Int)(h0:0<=l)(h1:l<=1048576):F.f6 x l=some (rem l x.wt):=by
  unfold F.f6
  have s1:(x.name.size:Int)<=9223372036854775807:=by have:x.name.size<=9223372036854775807:=ho.name;omega
  rw[ZE (n:=l-x.name.size) (by omega) (by omega)]
  by_cases g1:l-x.name.size<0
  · rw[iP g1];congr 1;unfold Data.wt;simp only[rem]at g1 ⊢;split<;>omega
  have h1n:¬rem l (x.name.size)<0:=by simp only[rem]at*;split<;>omega
  rw[iN g1,ZAO _ g1]
  rw[P.YBX x.ctors ho.ctors _ (by omega) (Int.le_trans (ZBl _ h0) h1)]
  simp only[zA,zB]
  rw[ZBI _ _ h1n]
  by_cases h2n:rem l (x.name.size+wtL zI x.ctors)<0
  · rw[iP h2n];congr 1;unfold Data.wt;simp only[rem]at h2n ⊢;split at h2n<;>split<;>omega
  rw[iN h2n]
  rfl
theorem P.YAl (a:List Data)(ho:a.length<=maxLen)(hf:∀x,x∈a->∀l:Int,0<=l->l<=1048576->F.f6 x l=some (rem l (Data.wt x)))(l:Int)(h0:0<=l)(h1:l<=1048576):F.f8 a l=some (rem l (wtL Data.wt a)):=by
  have hm:(a.length:Int)<=9223372036854775807:=by have:a.length<=9223372036854775807:=ho;omega
  unfold F.f8
  rw[ZE (n:=l-a.length) (by omega) (by omega),ZDL]
  by_cases h:l-a.length<0
  · rw[iP h];simp only[rem];split
    · omega
    · rfl
  · have h2:¬rem l a.length<0:=by rw[←ZAO _ h];exact h
    rw[iN h,ZAO _ h,ZFb (L:=F.f7 a) (fun l i=>by rw[F.f7]) hf _ 0 _ rfl (by omega) (Int.le_trans (ZBl _ h0) h1),ZBI _ _ h2]
    simp only[zE,zA,zB]
    split
    · next h3=>
      split at h3
      · next h4=>cases h3;congr 1;simp only[rem]at h4 ⊢;split at h4<;>split<;>omega
      · cases h3
    · next h3=>
      split at h3
      · cases h3
      · cases h3;rfl
theorem P.YBW (a:List Data)(ho:okL Data.Ok a)(l:Int)(h0:0<=l)(h1:l<=1048576):F.f8 a l=some (rem l (wtL Data.wt a)):=
  P.YAl a ho.1 (fun x hx=>P.YBk x (ho.2 x hx)) l h0 h1
theorem P.YK (a:List Pattern)(ho:a.length<=maxLen)(hf:∀x,x∈a->∀l:Int,0<=l->l<=1048576->F.f9 x l=some (rem l (zJ x)))(l:Int)(h0:0<=l)(h1:l<=1048576):yU a l=some (rem l (wtL zJ a)):=by
  have hm:(a.length:Int)<=9223372036854775807:=by have:a.length<=9223372036854775807:=ho;omega
  unfold yU
  rw[ZE (n:=l-a.length) (by omega) (by omega),ZDL]
  by_cases h:l-a.length<0
  · rw[iP h];simp only[rem];split
    · omega
    · rfl
  · have h2:¬rem l a.length<0:=by rw[←ZAO _ h];exact h
    rw[iN h,ZAO _ h,ZFb (L:=F.f11 a) (fun l i=>by rw[F.f11]) hf _ 0 _ rfl (by omega) (Int.le_trans (ZBl _ h0) h1),ZBI _ _ h2]
    simp only[zE,zA,zB]
    split
    · next h3=>
      split at h3
      · next h4=>cases h3;congr 1;simp only[rem]at h4 ⊢;split at h4<;>split<;>omega
      · cases h3
    · next h3=>
      split at h3
      · cases h3
      · cases h3;rfl
theorem P.YAE (x:Pattern)(ho:x.Ok)(l:Int)(h0:0<=l)(h1:l<=1048576):F.f9 x l=some (rem l x.wt):=by
  induction x using zL generalizing l with
  |_ x ih=>
  unfold F.f9
  rw[P.YK x.kids ho.kids.1 (fun k hk l h0 h1=>ih k hk (ho.kids.2 k hk) l h0 h1) _ h0 h1]
  simp only[zA,zB]
  by_cases h1n:rem l (wtL zJ x.kids)<0
  · rw[iP h1n];congr 1;rw[zK];simp only[rem]at h1n ⊢;split at h1n<;>split<;>omega
  rw[iN h1n]
  rw[zK]
theorem P.YBj (a:List Pattern)(ho:okL zN a)(l:Int)(h0:0<=l)(h1:l<=1048576):yU a l=some (rem l (wtL zJ a)):=
  P.YK a ho.1 (fun x hx=>P.YAE x (ho.2 x hx)) l h0 h1
theorem P.YBM (x:Clause)(ho:x.Ok)(l:Int)(h0:0<=l)(h1:l<=1048576):yT x l=some (rem l x.wt):=by
  unfold yT
  rw[P.YAE x.pat ho.pat _ h0 h1]
  simp only[zA,zB]
  by_cases h1n:rem l (zJ x.pat)<0
  · rw[iP h1n];congr 1;unfold yV;simp only[rem]at h1n ⊢;split at h1n<;>split<;>omega
  rw[iN h1n]
  rfl
theorem P.YAN (a:List Clause)(ho:a.length<=maxLen)(hf:∀x,x∈a->∀l:Int,0<=l->l<=1048576->yT x l=some (rem l (yV x)))(l:Int)(h0:0<=l)(h1:l<=1048576):yS a l=some (rem l (wtL yV a)):=by
  have hm:(a.length:Int)<=9223372036854775807:=by have:a.length<=9223372036854775807:=ho;omega
  unfold yS
  rw[ZE (n:=l-a.length) (by omega) (by omega),ZDL]
  by_cases h:l-a.length<0
  · rw[iP h];simp only[rem];split
    · omega
    · rfl
  · have h2:¬rem l a.length<0:=by rw[←ZAO _ h];exact h
    rw[iN h,ZAO _ h,ZFb (L:=F.f13 a) (fun l i=>by rw[F.f13]) hf _ 0 _ rfl (by omega) (Int.le_trans (ZBl _ h0) h1),ZBI _ _ h2]
    simp only[zE,zA,zB]
    split
    · next h3=>
      split at h3
      · next h4=>cases h3;congr 1;simp only[rem]at h4 ⊢;split at h4<;>split<;>omega
      · cases h3
    · next h3=>
      split at h3
      · cases h3
      · cases h3;rfl
theorem P.YA9 (a:List Clause)(ho:okL Clause.Ok a)(l:Int)(h0:0<=l)(h1:l<=1048576):yS a l=some (rem l (wtL yV a)):=
  P.YAN a ho.1 (fun x hx=>P.YBM x (ho.2 x hx)) l h0 h1
theorem P.Ya (a:List Value)(ho:a.length<=maxLen)(hf:∀x,x∈a->∀l:Int,0<=l->l<=1048576->yR x l=some (rem l (Value.wt x)))(l:Int)(h0:0<=l)(h1:l<=1048576):yQ a l=some (rem l (wtL Value.wt a)):=by
  have hm:(a.length:Int)<=9223372036854775807:=by have:a.length<=9223372036854775807:=ho;omega
  unfold yQ
  rw[ZE (n:=l-a.length) (by omega) (by omega),ZDL]
  by_cases h:l-a.length<0
  · rw[iP h];simp only[rem];split
    · omega
    · rfl
  · have h2:¬rem l a.length<0:=by rw[←ZAO _ h];exact h
    rw[iN h,ZAO _ h,ZFb (L:=F.f17 a) (fun l i=>by rw[F.f17]) hf _ 0 _ rfl (by omega) (Int.le_trans (ZBl _ h0) h1),ZBI _ _ h2]
    simp only[zE,zA,zB]
    split
    · next h3=>
      split at h3
      · next h4=>cases h3;congr 1;simp only[rem]at h4 ⊢;split at h4<;>split<;>omega
      · cases h3
    · next h3=>
      split at h3
      · cases h3
      · cases h3;rfl
theorem P.YA6 (x:Value)(ho:x.Ok)(l:Int)(h0:0<=l)(h1:l<=1048576):yR x l=some (rem l x.wt):=by
  induction x using Value.ind generalizing l with
  |_ x ih=>
  unfold yR
  rw[P.Ya x.kids ho.kids.1 (fun k hk l h0 h1=>ih k hk (ho.kids.2 k hk) l h0 h1) _ h0 h1]
  simp only[zA,zB]
  by_cases h1n:rem l (wtL Value.wt x.kids)<0
  · rw[iP h1n];congr 1;rw[Value.wt_eq];simp only[rem]at h1n ⊢;split at h1n<;>split<;>omega
  rw[iN h1n]
  rw[Value.wt_eq]
theorem P.YBt (a:List Value)(ho:okL Value.Ok a)(l:Int)(h0:0<=l)(h1:l<=1048576):yQ a l=some (rem l (wtL Value.wt a)):=
  P.Ya a ho.1 (fun x hx=>P.YA6 x (ho.2 x hx)) l h0 h1
theorem P.YBK (x:Ty)(hw:x.wt<=67108864):F.f18 x=some x:=by
  rfl
theorem P.YAi (a:List Ty)(hl:a.length<=67108864)(hf:∀x,x∈a->F.f18 x=some x):yP a=some a:=by
  unfold yP
  rw[iP hl,ZEH (a:=a) (L:=F.f19 a) (fun out i=>by rw[F.f19]) hf _ 0 (zC a.length Ty.z) rfl (by simp) rfl]
  rfl
theorem P.YBR (a:List Ty)(hw:wtL Ty.wt a<=67108864):yP a=some a:=
  P.YAi a (by have:=ZAL Ty.wt a;omega) (fun x hx=>P.YBK x (by have:=Za Ty.wt hx;omega))
theorem P.YBi (x:Ctor)(hw:x.wt<=67108864):yO x=some x:=by
  unfold yO
  have hw2:=hw;unfold zI at hw2
  rw[P.YBR x.args (by omega)]
  simp only[zA,zB]
  all_goals(cases x;rfl)
theorem P.YAk (a:List Ctor)(hl:a.length<=67108864)(hf:∀x,x∈a->yO x=some x):yN a=some a:=by
  unfold yN
  rw[iP hl,ZEH (a:=a) (L:=F.f22 a) (fun out i=>by rw[F.f22]) hf _ 0 (zC a.length Ctor.z) rfl (by simp) rfl]
  rfl
theorem P.YBU (a:List Ctor)(hw:wtL zI a<=67108864):yN a=some a:=
  P.YAk a (by have:=ZAL zI a;omega) (fun x hx=>P.YBi x (by have:=Za zI hx;omega))
theorem P.YBh (x:Data)(hw:x.wt<=67108864):yM x=some x:=by
  unfold yM
  have hw2:=hw;unfold Data.wt at hw2
  rw[P.YBU x.ctors (by omega)]
  simp only[zA,zB]
  all_goals(cases x;rfl)
theorem P.YAj (a:List Data)(hl:a.length<=67108864)(hf:∀x,x∈a->yM x=some x):yL a=some a:=by
  unfold yL
  rw[iP hl,ZEH (a:=a) (L:=F.f25 a) (fun out i=>by rw[F.f25]) hf _ 0 (zC a.length Data.z) rfl (by simp) rfl]
  rfl
theorem P.YBT (a:List Data)(hw:wtL Data.wt a<=67108864):yL a=some a:=
  P.YAj a (by have:=ZAL Data.wt a;omega) (fun x hx=>P.YBh x (by have:=Za Data.wt hx;omega))
theorem P.YJ (a:List Pattern)(hl:a.length<=67108864)(hf:∀x,x∈a->yK x=some x):yJ a=some a:=by
  unfold yJ
  rw[iP hl,ZEH (a:=a) (L:=F.f29 a) (fun out i=>by rw[F.f29]) hf _ 0 (zC a.length zM) rfl (by simp) rfl]
  rfl
theorem P.YAD (x:Pattern)(hw:x.wt<=67108864):yK x=some x:=by
  induction x using zL with
  |_ x ih=>
  unfold yK
  have hw2:=hw;rw[zK]at hw2
  rw[P.YJ x.kids (by have:=ZAL zJ x.kids;omega) (fun k hk=>ih k hk (by have:=Za zJ hk;omega))]
  simp only[zA,zB]
  all_goals(cases x;rfl)
theorem P.YBg (a:List Pattern)(hw:wtL zJ a<=67108864):yJ a=some a:=
  P.YJ a (by have:=ZAL zJ a;omega) (fun x hx=>P.YAD x (by have:=Za zJ hx;omega))
theorem P.YBS (x:Guard)(hw:x.wt<=67108864):F.f30 x=some x:=by
  rfl
theorem P.YBL (x:Clause)(hw:x.wt<=67108864):yI x=some x:=by
  unfold yI
  have hw2:=hw;unfold yV at hw2
  rw[P.YAD x.pat (by omega)]
  simp only[zA,zB]
  rw[P.YBS x.guard (by simp[Guard.wt])]
  simp only[zA,zB]
  all_goals(cases x;rfl)
theorem P.YAM (a:List Clause)(hl:a.length<=67108864)(hf:∀x,x∈a->yI x=some x):yH a=some a:=by
  unfold yH
  rw[iP hl,ZEH (a:=a) (L:=F.f32 a) (fun out i=>by rw[F.f32]) hf _ 0 (zC a.length Clause.z) rfl (by simp) rfl]
  rfl
theorem P.YA8 (a:List Clause)(hw:wtL yV a<=67108864):yH a=some a:=
  P.YAM a (by have:=ZAL yV a;omega) (fun x hx=>P.YBL x (by have:=Za yV hx;omega))
theorem P.YZ (a:List Value)(hl:a.length<=67108864)(hf:∀x,x∈a->yG x=some x):yF a=some a:=by
  unfold yF
  rw[iP hl,ZEH (a:=a) (L:=F.f36 a) (fun out i=>by rw[F.f36]) hf _ 0 (zC a.length Value.z) rfl (by simp) rfl]
  rfl
theorem P.YA5 (x:Value)(hw:x.wt<=67108864):yG x=some x:=by
  induction x using Value.ind with
  |_ x ih=>
  unfold yG
  have hw2:=hw;rw[Value.wt_eq]at hw2
  rw[P.YZ x.kids (by have:=ZAL Value.wt x.kids;omega) (fun k hk=>ih k hk (by have:=Za Value.wt hk;omega))]
  simp only[zA,zB]
  all_goals(cases x;rfl)
theorem P.YBs (a:List Value)(hw:wtL Value.wt a<=67108864):yF a=some a:=
  P.YZ a (by have:=ZAL Value.wt a;omega) (fun x hx=>P.YA5 x (by have:=Za Value.wt hx;omega))
theorem P.Yf (a:List Value)(hf:∀x,x∈a->∀y,yE x y=some (dec (x=y)))(b:List Value):yD a b=some (dec (a=b)):=by
  unfold yD
  by_cases h:a.length=b.length
  · rw[iP h,ZDr (L:=F.f218 a b) (fun i=>by rw[F.f218]) hf h _ 0 rfl]
    by_cases e:a=b
    · simp[e,dec_of]
    · simp[e,ZD]
  · rw[iN h,ZD]
    intro e;rw[e]at h;exact h rfl
theorem P.YAY (x y:Value):yE x y=some (dec (x=y)):=by
  induction x using Value.ind generalizing y with
  |_ x ih=>
  unfold yE
  simp only[P.Yf x.kids (fun k hk y=>ih k hk y),zA,zB,ZW]
  cases x;cases y
  simp only[Value.mk.injEq]
  repeat' split
  all_goals first|(rw[dec_of];simp_all[ZW,ZM];done)|(rw[ZD];simp_all[ZW,ZM];done)
theorem P.YBw (a b:List Value):yD a b=some (dec (a=b)):=
  P.Yf a (fun x _ y=>P.YAY x y) b
theorem P.YBr (x y:Bind):yC x y=some (dec (x=y)):=by
  unfold yC
  simp only[P.YAY,zA,zB,ZW]
  cases x;cases y
  simp only[Bind.mk.injEq]
  repeat' split
  all_goals first|(rw[dec_of];simp_all[ZW,ZM];done)|(rw[ZD];simp_all[ZW,ZM];done)
theorem P.YAy (a:List Bind)(hf:∀x,x∈a->∀y,yC x y=some (dec (x=y)))(b:List Bind):yB a b=some (dec (a=b)):=by
  unfold yB
  by_cases h:a.length=b.length
  · rw[iP h,ZDr (L:=F.f220 a b) (fun i=>by rw[F.f220]) hf h _ 0 rfl]
    by_cases e:a=b
    · simp[e,dec_of]
    · simp[e,ZD]
  · rw[iN h,ZD]
    intro e;rw[e]at h;exact h rfl
theorem P.YBf (a b:List Bind):yB a b=some (dec (a=b)):=
  P.YAy a (fun x _ y=>P.YBr x y) b
theorem P.YBn (x y:Ty):yA x y=some (dec (x=y)):=by
  unfold yA
  cases x;cases y
  simp only[Ty.mk.injEq]
  repeat' split
  all_goals first|(rw[dec_of];simp_all[ZW,ZM];done)|(rw[ZD];simp_all[ZW,ZM];done)
theorem P.YAv (a:List Ty)(hf:∀x,x∈a->∀y,yA x y=some (dec (x=y)))(b:List Ty):zZ a b=some (dec (a=b)):=by
  unfold zZ
  by_cases h:a.length=b.length
  · rw[iP h,ZDr (L:=F.f223 a b) (fun i=>by rw[F.f223]) hf h _ 0 rfl]
    by_cases e:a=b
    · simp[e,dec_of]
    · simp[e,ZD]
  · rw[iN h,ZD]
    intro e;rw[e]at h;exact h rfl
theorem P.YBb (a b:List Ty):zZ a b=some (dec (a=b)):=
  P.YAv a (fun x _ y=>P.YBn x y) b
theorem P.YBq (x y:Ctor):zY x y=some (dec (x=y)):=by
  unfold zY
  simp only[ZAI,P.YBb,zA,zB,ZW]
  cases x;cases y
  simp only[Ctor.mk.injEq]
  repeat' split
  all_goals first|(rw[dec_of];simp_all[ZW,ZM];done)|(rw[ZD];simp_all[ZW,ZM];done)
theorem P.YAx (a:List Ctor)(hf:∀x,x∈a->∀y,zY x y=some (dec (x=y)))(b:List Ctor):zX a b=some (dec (a=b)):=by
  unfold zX
  by_cases h:a.length=b.length
  · rw[iP h,ZDr (L:=F.f226 a b) (fun i=>by rw[F.f226]) hf h _ 0 rfl]
    by_cases e:a=b
    · simp[e,dec_of]
    · simp[e,ZD]
  · rw[iN h,ZD]
    intro e;rw[e]at h;exact h rfl
theorem P.YBe (a b:List Ctor):zX a b=some (dec (a=b)):=
  P.YAx a (fun x _ y=>P.YBq x y) b
theorem P.YBp (x y:Data):zW x y=some (dec (x=y)):=by
  unfold zW
  simp only[ZAI,P.YBe,zA,zB,ZW]
  cases x;cases y
  simp only[Data.mk.injEq]
  repeat' split
  all_goals first|(rw[dec_of];simp_all[ZW,ZM];done)|(rw[ZD];simp_all[ZW,ZM];done)
theorem P.YAw (a:List Data)(hf:∀x,x∈a->∀y,zW x y=some (dec (x=y)))(b:List Data):zV a b=some (dec (a=b)):=by
  unfold zV
  by_cases h:a.length=b.length
  · rw[iP h,ZDr (L:=F.f229 a b) (fun i=>by rw[F.f229]) hf h _ 0 rfl]
    by_cases e:a=b
    · simp[e,dec_of]
    · simp[e,ZD]
  · rw[iN h,ZD]
    intro e;rw[e]at h;exact h rfl
theorem P.YBd (a b:List Data):zV a b=some (dec (a=b)):=
  P.YAw a (fun x _ y=>P.YBp x y) b
theorem P.YP (a:List Pattern)(hf:∀x,x∈a->∀y,zU x y=some (dec (x=y)))(b:List Pattern):zT a b=some (dec (a=b)):=by
  unfold zT
  by_cases h:a.length=b.length
  · rw[iP h,ZDr (L:=F.f233 a b) (fun i=>by rw[F.f233]) hf h _ 0 rfl]
    by_cases e:a=b
    · simp[e,dec_of]
    · simp[e,ZD]
  · rw[iN h,ZD]
    intro e;rw[e]at h;exact h rfl
theorem P.YAL (x y:Pattern):zU x y=some (dec (x=y)):=by
  induction x using zL generalizing y with
  |_ x ih=>
  unfold zU
  simp only[P.YP x.kids (fun k hk y=>ih k hk y),zA,zB,ZW]
  cases x;cases y
  simp only[Pattern.mk.injEq]
  repeat' split
  all_goals first|(rw[dec_of];simp_all[ZW,ZM];done)|(rw[ZD];simp_all[ZW,ZM];done)
theorem P.YBo (a b:List Pattern):zT a b=some (dec (a=b)):=
  P.YP a (fun x _ y=>P.YAL x y) b
theorem P.YBc (x y:Guard):F.f234 x y=some (dec (x=y)):=by
  unfold F.f234
  cases x;cases y
  simp only[Guard.mk.injEq]
  repeat' split
  all_goals first|(rw[dec_of];simp_all[ZW,ZM];done)|(rw[ZD];simp_all[ZW,ZM];done)
theorem P.YBQ (x y:Clause):zS x y=some (dec (x=y)):=by
  unfold zS
  simp only[P.YAL,P.YBc,zA,zB,ZW]
  cases x;cases y
  simp only[Clause.mk.injEq]
  repeat' split
  all_goals first|(rw[dec_of];simp_all[ZW,ZM];done)|(rw[ZD];simp_all[ZW,ZM];done)
theorem P.YAZ (a:List Clause)(hf:∀x,x∈a->∀y,zS x y=some (dec (x=y)))(b:List Clause):zR a b=some (dec (a=b)):=by
  unfold zR
  by_cases h:a.length=b.length
  · rw[iP h,ZDr (L:=F.f236 a b) (fun i=>by rw[F.f236]) hf h _ 0 rfl]
    by_cases e:a=b
    · simp[e,dec_of]
    · simp[e,ZD]
  · rw[iN h,ZD]
    intro e;rw[e]at h;exact h rfl
theorem P.YBJ (a b:List Clause):zR a b=some (dec (a=b)):=
  P.YAZ a (fun x _ y=>P.YBQ x y) b
-- held
theorem P.YAW :∀m:Nat,(∀(r D:List Value) (k:Int),SizeOf.sizeOf r<m->0<=k->k+(Value.cntL r:Int)<=9223372036854775807->zQ (D++(Value.mkL r k).1) k D.length=some (.go (Value.mkL r k).2)):=by
  intro m
  induction m with
  |zero=>exact fun r D k h=>absurd h (Nat.not_lt_zero _)
  |succ m ih=>
    intro r D k hm h0 h
    induction r generalizing D k with
    |nil=>rw[zQ,iN (by simp[Value.mkL])];simp[Value.mkL]
    |cons x r ihr=>
      have hr:SizeOf.sizeOf r<m+1:=by simp at hm;omega
      simp only[Value.cntL]at h
      have hE:(Value.mkE x k).2=k+(Value.cnt x:Int):=by
        have h2:=Value.mkL_snd [x] k h0 (by simp only[Value.cntL];omega)
        simpa[Value.mkL,Value.cntL]using h2
      obtain⟨A,hA⟩:∃A,A=(D++[(Value.mkE x k).1])++(Value.mkL r (Value.mkE x k).2).1:=⟨_,rfl⟩
      have h1:D++(Value.mkL (x::r) k).1=A:=by rw[hA];simp[Value.mkL]
      have hlt:D.length<A.length:=by rw[hA];simp
      have hget:A[D.length]? =some (Value.mkE x k).1:=by rw[hA];simp
      have ihr2:=ihr (D++[(Value.mkE x k).1]) (Value.mkE x k).2 hr (by rw[hE];omega) (by rw[hE];omega)
      rw[←hA]at ihr2
      simp only[zG,zH,zD,Nat.zero_add]at ihr2
      have e2:(Value.mkL (x::r) k).2=(Value.mkL r (Value.mkE x k).2).2:=by rw[Value.mkL]
      rw[e2,h1,zQ,iP hlt,hget]
      simp only[zA,zB]
      generalize hk2:(Value.mkE x k).2=k2 at ihr2 hE ⊢
      clear hA h1 hget e2 ihr
      obtain⟨ctor,n,kids⟩:=x
      simp only[Value.cnt]at h hE
      simp only[Value.mkE]at hk2 ⊢
      have w1:i64.wrap (k+1)=k+1:=ZE (by omega) (by omega)
      rw[iP (by first|rfl|trivial)]
      have w2:i64.wrap (k+1+1)=k+1+1:=ZE (by omega) (by omega)
      rw[iP (by first|rfl|trivial)]
      have rw3:i64.wrap ((i64.wrap (k+1))+1)=k+1+1:=by simp only[w1,w2]
      have qw3:zO (Value.mkL kids (i64.wrap ((i64.wrap (k+1))+1))).1 (i64.wrap ((i64.wrap (k+1))+1))=some (Value.mkL kids (i64.wrap ((i64.wrap (k+1))+1))).2:=by
        have h3:=ih kids [] (i64.wrap ((i64.wrap (k+1))+1)) (by simp at hm;omega) (by rw[rw3];omega) (by rw[rw3];omega)
        simp only[zF,zD]at h3
        rw[zO,h3];rfl
      have w3:(Value.mkL kids (k+1+1)).2=k+1+1+(Value.cntL kids:Int):=Value.mkL_snd _ _ (by omega) (by omega)
      rw[qw3]
      simp only[zB]
      rw[iN (by rw[rw3,w3];omega)]
      rw[hk2]
      exact ihr2
theorem P.YAA (r D:List Value)(k:Int)(h0:0<=k)(h:k+(Value.cntL r:Int)<=9223372036854775807):zQ (D++(Value.mkL r k).1) k D.length=some (.go (Value.mkL r k).2):=(P.YAW (SizeOf.sizeOf r+1)) r D k (Nat.lt_succ_self _) h0 h
theorem P.YAu (l:List Value)(k:Int)(h0:0<=k)(h:k+(Value.cntL l:Int)<=9223372036854775807):zO (Value.mkL l k).1 k=some (Value.mkL l k).2:=by
  unfold zO
  have:=P.YAA l [] k h0 h
  simp only[zF,zD]at this
  rw[this]
  rfl
theorem P.YAh :∀m:Nat,(∀(r D:List Bind) (k:Int),SizeOf.sizeOf r<m->0<=k->k+(yY r:Int)<=9223372036854775807->zP (D++(yW r k).1) k D.length=some (.go (yW r k).2)):=by
  intro m
  induction m with
  |zero=>exact fun r D k h=>absurd h (Nat.not_lt_zero _)
  |succ m ih=>
    intro r D k hm h0 h
    induction r generalizing D k with
    |nil=>rw[zP,iN (by simp[yW])];simp[yW]
    |cons x r ihr=>
      have hr:SizeOf.sizeOf r<m+1:=by simp at hm;omega
      simp only[yY]at h
      have hE:(yX x k).2=k+(yZ x:Int):=by
        have h2:=Bind.mkL_snd [x] k h0 (by simp only[yY];omega)
        simpa[yW,yY]using h2
      obtain⟨A,hA⟩:∃A,A=(D++[(yX x k).1])++(yW r (yX x k).2).1:=⟨_,rfl⟩
      have h1:D++(yW (x::r) k).1=A:=by rw[hA];simp[yW]
      have hlt:D.length<A.length:=by rw[hA];simp
      have hget:A[D.length]? =some (yX x k).1:=by rw[hA];simp
      have ihr2:=ihr (D++[(yX x k).1]) (yX x k).2 hr (by rw[hE];omega) (by rw[hE];omega)
      rw[←hA]at ihr2
      simp only[zG,zH,zD,Nat.zero_add]at ihr2
      have e2:(yW (x::r) k).2=(yW r (yX x k).2).2:=by rw[yW]
      rw[e2,h1,zP,iP hlt,hget]
      simp only[zA,zB]
      generalize hk2:(yX x k).2=k2 at ihr2 hE ⊢
      clear hA h1 hget e2 ihr
      obtain⟨var,⟨value_ctor,value_n,value_kids⟩⟩:=x
      simp only[yZ,Value.cnt]at h hE
      simp only[yX,Value.mkE]at hk2 ⊢
      have w1:i64.wrap (k+1)=k+1:=ZE (by omega) (by omega)
      rw[iP (by first|rfl|trivial)]
      have w2:i64.wrap (k+1+1)=k+1+1:=ZE (by omega) (by omega)
      rw[iP (by first|rfl|trivial)]
      have w3:i64.wrap (k+1+1+1)=k+1+1+1:=ZE (by omega) (by omega)
      rw[iP (by first|rfl|trivial)]
      have rw4:i64.wrap ((i64.wrap ((i64.wrap (k+1))+1))+1)=k+1+1+1:=by simp only[w1,w2,w3]
      have qw4:zO (Value.mkL value_kids (i64.wrap ((i64.wrap ((i64.wrap (k+1))+1))+1))).1 (i64.wrap ((i64.wrap ((i64.wrap (k+1))+1))+1))=some (Value.mkL value_kids (i64.wrap ((i64.wrap ((i64.wrap (k+1))+1))+1))).2:=P.YAu _ _ (by rw[rw4];omega) (by rw[rw4];omega)
      have w4:(Value.mkL value_kids (k+1+1+1)).2=k+1+1+1+(Value.cntL value_kids:Int):=Value.mkL_snd _ _ (by omega) (by omega)
      rw[qw4]
      simp only[zB]
      rw[iN (by rw[rw4,w4];omega)]
      rw[hk2]
      exact ihr2
theorem P.YAX (r D:List Bind)(k:Int)(h0:0<=k)(h:k+(yY r:Int)<=9223372036854775807):zP (D++(yW r k).1) k D.length=some (.go (yW r k).2):=(P.YAh (SizeOf.sizeOf r+1)) r D k (Nat.lt_succ_self _) h0 h
theorem P.YBI (l:List Bind)(k:Int)(h0:0<=k)(h:k+(yY l:Int)<=9223372036854775807):F.f241 (yW l k).1 k=some (yW l k).2:=by
  unfold F.f241
  have:=P.YAX l [] k h0 h
  simp only[zF,zD]at this
  rw[this]
  rfl
end Go.Vl
