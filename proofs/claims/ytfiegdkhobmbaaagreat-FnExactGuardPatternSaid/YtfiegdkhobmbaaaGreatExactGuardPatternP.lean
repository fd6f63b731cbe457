/- The plain lemmas of the counting, copying and comparing functions (printed by gen_p.py). -/
import Derived.Test.YtfiegdkhobmbaaaGreatExactGuardPatternF
import Derived.Test.YtfiegdkhobmbaaaGreatVlP
set_option linter.unusedSimpArgs false
set_option linter.unusedVariables false
namespace Go.Vl
open Go Go.RowKit
theorem P.szTypeS (a:List Ty)(ho:a.length≤maxLen)(l:Int)(h0:0≤l)(h1:l≤1048576):F.f2 a l=some (rem l (wtL Ty.wt a)):=by
  have hm:(a.length:Int)≤9223372036854775807:=by have:a.length≤9223372036854775807:=ho;omega
  have hw:wtL Ty.wt a=a.length:=wtL_zero (fun _=>rfl) a
  unfold F.f2
  rw[wrap_in (n:=l-a.length) (by omega) (by omega),hw]
  by_cases h:l-a.length<0
  · rw[if_pos h];simp only[rem];split
    · omega
    · rfl
  · rw[if_neg h,rem_sub _ h]
theorem P.szCtor (x:Ctor)(ho:x.Ok)(l:Int)(h0:0≤l)(h1:l≤1048576):F.f3 x l=some (rem l x.wt):=by
  unfold F.f3
  have s1:(x.name.size:Int)≤9223372036854775807:=by have:x.name.size≤9223372036854775807:=ho.name;omega
  rw[wrap_in (n:=l-x.name.size) (by omega) (by omega)]
  by_cases g1:l-x.name.size<0
  · rw[if_pos g1];congr 1;unfold Ctor.wt;simp only[rem]at g1 ⊢;split<;>omega
  have h1n:¬rem l (x.name.size)<0:=by simp only[rem]at*;split<;>omega
  rw[if_neg g1,rem_sub _ g1]
  rw[P.szTypeS x.args ho.args.1 _ (by omega) (Int.le_trans (rem_le _ h0) h1)]
  simp only[Option.bind_eq_bind,Option.bind_some]
  rw[rem_rem _ _ h1n]
  by_cases h2n:rem l (x.name.size+wtL Ty.wt x.args)<0
  · rw[if_pos h2n];congr 1;unfold Ctor.wt;simp only[rem]at h2n ⊢;split at h2n<;>split<;>omega
  rw[if_neg h2n]
  rfl
theorem P.szCtorS_of (a:List Ctor)(ho:a.length≤maxLen)(hf:∀x,x∈a→∀l:Int,0≤l→l≤1048576→F.f3 x l=some (rem l (Ctor.wt x)))(l:Int)(h0:0≤l)(h1:l≤1048576):F.f5 a l=some (rem l (wtL Ctor.wt a)):=by
  have hm:(a.length:Int)≤9223372036854775807:=by have:a.length≤9223372036854775807:=ho;omega
  unfold F.f5
  rw[wrap_in (n:=l-a.length) (by omega) (by omega),wtL_eq]
  by_cases h:l-a.length<0
  · rw[if_pos h];simp only[rem];split
    · omega
    · rfl
  · have h2:¬rem l a.length<0:=by rw[←rem_sub _ h];exact h
    rw[if_neg h,rem_sub _ h,szLoop (L:=F.f4 a) (fun l i=>by rw[F.f4]) hf _ 0 _ rfl (by omega) (Int.le_trans (rem_le _ h0) h1),rem_rem _ _ h2]
    simp only[List.drop_zero,Option.bind_eq_bind,Option.bind_some]
    split
    · next h3=>
      split at h3
      · next h4=>cases h3;congr 1;simp only[rem]at h4 ⊢;split at h4<;>split<;>omega
      · cases h3
    · next h3=>
      split at h3
      · cases h3
      · cases h3;rfl
theorem P.szCtorS (a:List Ctor)(ho:okL Ctor.Ok a)(l:Int)(h0:0≤l)(h1:l≤1048576):F.f5 a l=some (rem l (wtL Ctor.wt a)):=
  P.szCtorS_of a ho.1 (fun x hx=>P.szCtor x (ho.2 x hx)) l h0 h1
theorem P.szData (x:Data)(ho:x.Ok)(l:Int)(h0:0≤l)(h1:l≤1048576):F.f6 x l=some (rem l x.wt):=by
  unfold F.f6
  have s1:(x.name.size:Int)≤9223372036854775807:=by have:x.name.size≤9223372036854775807:=ho.name;omega
  rw[wrap_in (n:=l-x.name.size) (by omega) (by omega)]
  by_cases g1:l-x.name.size<0
  · rw[if_pos g1];congr 1;unfold Data.wt;simp only[rem]at g1 ⊢;split<;>omega
  have h1n:¬rem l (x.name.size)<0:=by simp only[rem]at*;split<;>omega
  rw[if_neg g1,rem_sub _ g1]
  rw[P.szCtorS x.ctors ho.ctors _ (by omega) (Int.le_trans (rem_le _ h0) h1)]
  simp only[Option.bind_eq_bind,Option.bind_some]
  rw[rem_rem _ _ h1n]
  by_cases h2n:rem l (x.name.size+wtL Ctor.wt x.ctors)<0
  · rw[if_pos h2n];congr 1;unfold Data.wt;simp only[rem]at h2n ⊢;split at h2n<;>split<;>omega
  rw[if_neg h2n]
  rfl
theorem P.szDataS_of (a:List Data)(ho:a.length≤maxLen)(hf:∀x,x∈a→∀l:Int,0≤l→l≤1048576→F.f6 x l=some (rem l (Data.wt x)))(l:Int)(h0:0≤l)(h1:l≤1048576):F.f8 a l=some (rem l (wtL Data.wt a)):=by
  have hm:(a.length:Int)≤9223372036854775807:=by have:a.length≤9223372036854775807:=ho;omega
  unfold F.f8
  rw[wrap_in (n:=l-a.length) (by omega) (by omega),wtL_eq]
  by_cases h:l-a.length<0
  · rw[if_pos h];simp only[rem];split
    · omega
    · rfl
  · have h2:¬rem l a.length<0:=by rw[←rem_sub _ h];exact h
    rw[if_neg h,rem_sub _ h,szLoop (L:=F.f7 a) (fun l i=>by rw[F.f7]) hf _ 0 _ rfl (by omega) (Int.le_trans (rem_le _ h0) h1),rem_rem _ _ h2]
    simp only[List.drop_zero,Option.bind_eq_bind,Option.bind_some]
    split
    · next h3=>
      split at h3
      · next h4=>cases h3;congr 1;simp only[rem]at h4 ⊢;split at h4<;>split<;>omega
      · cases h3
    · next h3=>
      split at h3
      · cases h3
      · cases h3;rfl
theorem P.szDataS (a:List Data)(ho:okL Data.Ok a)(l:Int)(h0:0≤l)(h1:l≤1048576):F.f8 a l=some (rem l (wtL Data.wt a)):=
  P.szDataS_of a ho.1 (fun x hx=>P.szData x (ho.2 x hx)) l h0 h1
theorem P.szPatternS_of (a:List Pattern)(ho:a.length≤maxLen)(hf:∀x,x∈a→∀l:Int,0≤l→l≤1048576→F.f9 x l=some (rem l (Pattern.wt x)))(l:Int)(h0:0≤l)(h1:l≤1048576):F.f10 a l=some (rem l (wtL Pattern.wt a)):=by
  have hm:(a.length:Int)≤9223372036854775807:=by have:a.length≤9223372036854775807:=ho;omega
  unfold F.f10
  rw[wrap_in (n:=l-a.length) (by omega) (by omega),wtL_eq]
  by_cases h:l-a.length<0
  · rw[if_pos h];simp only[rem];split
    · omega
    · rfl
  · have h2:¬rem l a.length<0:=by rw[←rem_sub _ h];exact h
    rw[if_neg h,rem_sub _ h,szLoop (L:=F.f11 a) (fun l i=>by rw[F.f11]) hf _ 0 _ rfl (by omega) (Int.le_trans (rem_le _ h0) h1),rem_rem _ _ h2]
    simp only[List.drop_zero,Option.bind_eq_bind,Option.bind_some]
    split
    · next h3=>
      split at h3
      · next h4=>cases h3;congr 1;simp only[rem]at h4 ⊢;split at h4<;>split<;>omega
      · cases h3
    · next h3=>
      split at h3
      · cases h3
      · cases h3;rfl
theorem P.szPattern (x:Pattern)(ho:x.Ok)(l:Int)(h0:0≤l)(h1:l≤1048576):F.f9 x l=some (rem l x.wt):=by
  induction x using Pattern.ind generalizing l with
  |_ x ih=>
  unfold F.f9
  rw[P.szPatternS_of x.kids ho.kids.1 (fun k hk l h0 h1=>ih k hk (ho.kids.2 k hk) l h0 h1) _ h0 h1]
  simp only[Option.bind_eq_bind,Option.bind_some]
  by_cases h1n:rem l (wtL Pattern.wt x.kids)<0
  · rw[if_pos h1n];congr 1;rw[Pattern.wt_eq];simp only[rem]at h1n ⊢;split at h1n<;>split<;>omega
  rw[if_neg h1n]
  rw[Pattern.wt_eq]
theorem P.szPatternS (a:List Pattern)(ho:okL Pattern.Ok a)(l:Int)(h0:0≤l)(h1:l≤1048576):F.f10 a l=some (rem l (wtL Pattern.wt a)):=
  P.szPatternS_of a ho.1 (fun x hx=>P.szPattern x (ho.2 x hx)) l h0 h1
theorem P.szClause (x:Clause)(ho:x.Ok)(l:Int)(h0:0≤l)(h1:l≤1048576):F.f12 x l=some (rem l x.wt):=by
  unfold F.f12
  rw[P.szPattern x.pat ho.pat _ h0 h1]
  simp only[Option.bind_eq_bind,Option.bind_some]
  by_cases h1n:rem l (Pattern.wt x.pat)<0
  · rw[if_pos h1n];congr 1;unfold Clause.wt;simp only[rem]at h1n ⊢;split at h1n<;>split<;>omega
  rw[if_neg h1n]
  rfl
theorem P.toType (x:Ty)(hw:x.wt≤67108864):F.f13 x=some x:=by
  rfl
theorem P.toTypeS_of (a:List Ty)(hl:a.length≤67108864)(hf:∀x,x∈a→F.f13 x=some x):F.f15 a=some a:=by
  unfold F.f15
  rw[if_pos hl,toLoop (a:=a) (L:=F.f14 a) (fun out i=>by rw[F.f14]) hf _ 0 (List.replicate a.length Ty.z) rfl (by simp) rfl]
  rfl
theorem P.toTypeS (a:List Ty)(hw:wtL Ty.wt a≤67108864):F.f15 a=some a:=
  P.toTypeS_of a (by have:=wtL_len Ty.wt a;omega) (fun x hx=>P.toType x (by have:=wtL_mem Ty.wt hx;omega))
theorem P.toCtor (x:Ctor)(hw:x.wt≤67108864):F.f16 x=some x:=by
  unfold F.f16
  have hw2:=hw;unfold Ctor.wt at hw2
  rw[P.toTypeS x.args (by omega)]
  simp only[Option.bind_eq_bind,Option.bind_some]
  all_goals(cases x;rfl)
theorem P.toCtorS_of (a:List Ctor)(hl:a.length≤67108864)(hf:∀x,x∈a→F.f16 x=some x):F.f18 a=some a:=by
  unfold F.f18
  rw[if_pos hl,toLoop (a:=a) (L:=F.f17 a) (fun out i=>by rw[F.f17]) hf _ 0 (List.replicate a.length Ctor.z) rfl (by simp) rfl]
  rfl
theorem P.toCtorS (a:List Ctor)(hw:wtL Ctor.wt a≤67108864):F.f18 a=some a:=
  P.toCtorS_of a (by have:=wtL_len Ctor.wt a;omega) (fun x hx=>P.toCtor x (by have:=wtL_mem Ctor.wt hx;omega))
theorem P.toData (x:Data)(hw:x.wt≤67108864):F.f19 x=some x:=by
  unfold F.f19
  have hw2:=hw;unfold Data.wt at hw2
  rw[P.toCtorS x.ctors (by omega)]
  simp only[Option.bind_eq_bind,Option.bind_some]
  all_goals(cases x;rfl)
theorem P.toDataS_of (a:List Data)(hl:a.length≤67108864)(hf:∀x,x∈a→F.f19 x=some x):F.f21 a=some a:=by
  unfold F.f21
  rw[if_pos hl,toLoop (a:=a) (L:=F.f20 a) (fun out i=>by rw[F.f20]) hf _ 0 (List.replicate a.length Data.z) rfl (by simp) rfl]
  rfl
theorem P.toDataS (a:List Data)(hw:wtL Data.wt a≤67108864):F.f21 a=some a:=
  P.toDataS_of a (by have:=wtL_len Data.wt a;omega) (fun x hx=>P.toData x (by have:=wtL_mem Data.wt hx;omega))
theorem P.toPatternS_of (a:List Pattern)(hl:a.length≤67108864)(hf:∀x,x∈a→F.f22 x=some x):F.f23 a=some a:=by
  unfold F.f23
  rw[if_pos hl,toLoop (a:=a) (L:=F.f24 a) (fun out i=>by rw[F.f24]) hf _ 0 (List.replicate a.length Pattern.z) rfl (by simp) rfl]
  rfl
theorem P.toPattern (x:Pattern)(hw:x.wt≤67108864):F.f22 x=some x:=by
  induction x using Pattern.ind with
  |_ x ih=>
  unfold F.f22
  have hw2:=hw;rw[Pattern.wt_eq]at hw2
  rw[P.toPatternS_of x.kids (by have:=wtL_len Pattern.wt x.kids;omega) (fun k hk=>ih k hk (by have:=wtL_mem Pattern.wt hk;omega))]
  simp only[Option.bind_eq_bind,Option.bind_some]
  all_goals(cases x;rfl)
theorem P.toPatternS (a:List Pattern)(hw:wtL Pattern.wt a≤67108864):F.f23 a=some a:=
  P.toPatternS_of a (by have:=wtL_len Pattern.wt a;omega) (fun x hx=>P.toPattern x (by have:=wtL_mem Pattern.wt hx;omega))
theorem P.toGuard (x:Guard)(hw:x.wt≤67108864):F.f25 x=some x:=by
  rfl
theorem P.toClause (x:Clause)(hw:x.wt≤67108864):F.f26 x=some x:=by
  unfold F.f26
  have hw2:=hw;unfold Clause.wt at hw2
  rw[P.toPattern x.pat (by omega)]
  simp only[Option.bind_eq_bind,Option.bind_some]
  rw[P.toGuard x.guard (by simp[Guard.wt])]
  simp only[Option.bind_eq_bind,Option.bind_some]
  all_goals(cases x;rfl)
theorem P.eqPatternS_of (a:List Pattern)(hf:∀x,x∈a→∀y,F.f145 x y=some (dec (x=y)))(b:List Pattern):F.f146 a b=some (dec (a=b)):=by
  unfold F.f146
  by_cases h:a.length=b.length
  · rw[if_pos h,eqLoop (L:=F.f147 a b) (fun i=>by rw[F.f147]) hf h _ 0 rfl]
    by_cases e:a=b
    · simp[e,dec_of]
    · simp[e,dec_not]
  · rw[if_neg h,dec_not]
    intro e;rw[e]at h;exact h rfl
theorem P.eqPattern (x y:Pattern):F.f145 x y=some (dec (x=y)):=by
  induction x using Pattern.ind generalizing y with
  |_ x ih=>
  unfold F.f145
  simp only[P.eqPatternS_of x.kids (fun k hk y=>ih k hk y),Option.bind_eq_bind,Option.bind_some,dec_iff]
  cases x;cases y
  simp only[Pattern.mk.injEq]
  repeat' split
  all_goals first|(rw[dec_of];simp_all[dec_iff,dec_false_iff];done)|(rw[dec_not];simp_all[dec_iff,dec_false_iff];done)
theorem P.eqPatternS (a b:List Pattern):F.f146 a b=some (dec (a=b)):=
  P.eqPatternS_of a (fun x _ y=>P.eqPattern x y) b
theorem P.eqGuard (x y:Guard):F.f148 x y=some (dec (x=y)):=by
  unfold F.f148
  cases x;cases y
  simp only[Guard.mk.injEq]
  repeat' split
  all_goals first|(rw[dec_of];simp_all[dec_iff,dec_false_iff];done)|(rw[dec_not];simp_all[dec_iff,dec_false_iff];done)
theorem P.eqClause (x y:Clause):F.f149 x y=some (dec (x=y)):=by
  unfold F.f149
  simp only[P.eqPattern,P.eqGuard,Option.bind_eq_bind,Option.bind_some,dec_iff]
  cases x;cases y
  simp only[Clause.mk.injEq]
  repeat' split
  all_goals first|(rw[dec_of];simp_all[dec_iff,dec_false_iff];done)|(rw[dec_not];simp_all[dec_iff,dec_false_iff];done)
theorem P.eqType (x y:Ty):F.f150 x y=some (dec (x=y)):=by
  unfold F.f150
  cases x;cases y
  simp only[Ty.mk.injEq]
  repeat' split
  all_goals first|(rw[dec_of];simp_all[dec_iff,dec_false_iff];done)|(rw[dec_not];simp_all[dec_iff,dec_false_iff];done)
theorem P.eqTypeS_of (a:List Ty)(hf:∀x,x∈a→∀y,F.f150 x y=some (dec (x=y)))(b:List Ty):F.f152 a b=some (dec (a=b)):=by
  unfold F.f152
  by_cases h:a.length=b.length
  · rw[if_pos h,eqLoop (L:=F.f151 a b) (fun i=>by rw[F.f151]) hf h _ 0 rfl]
    by_cases e:a=b
    · simp[e,dec_of]
    · simp[e,dec_not]
  · rw[if_neg h,dec_not]
    intro e;rw[e]at h;exact h rfl
theorem P.eqTypeS (a b:List Ty):F.f152 a b=some (dec (a=b)):=
  P.eqTypeS_of a (fun x _ y=>P.eqType x y) b
theorem P.eqCtor (x y:Ctor):F.f153 x y=some (dec (x=y)):=by
  unfold F.f153
  simp only[bytes_eq,P.eqTypeS,Option.bind_eq_bind,Option.bind_some,dec_iff]
  cases x;cases y
  simp only[Ctor.mk.injEq]
  repeat' split
  all_goals first|(rw[dec_of];simp_all[dec_iff,dec_false_iff];done)|(rw[dec_not];simp_all[dec_iff,dec_false_iff];done)
theorem P.eqCtorS_of (a:List Ctor)(hf:∀x,x∈a→∀y,F.f153 x y=some (dec (x=y)))(b:List Ctor):F.f155 a b=some (dec (a=b)):=by
  unfold F.f155
  by_cases h:a.length=b.length
  · rw[if_pos h,eqLoop (L:=F.f154 a b) (fun i=>by rw[F.f154]) hf h _ 0 rfl]
    by_cases e:a=b
    · simp[e,dec_of]
    · simp[e,dec_not]
  · rw[if_neg h,dec_not]
    intro e;rw[e]at h;exact h rfl
theorem P.eqCtorS (a b:List Ctor):F.f155 a b=some (dec (a=b)):=
  P.eqCtorS_of a (fun x _ y=>P.eqCtor x y) b
theorem P.eqData (x y:Data):F.f156 x y=some (dec (x=y)):=by
  unfold F.f156
  simp only[bytes_eq,P.eqCtorS,Option.bind_eq_bind,Option.bind_some,dec_iff]
  cases x;cases y
  simp only[Data.mk.injEq]
  repeat' split
  all_goals first|(rw[dec_of];simp_all[dec_iff,dec_false_iff];done)|(rw[dec_not];simp_all[dec_iff,dec_false_iff];done)
theorem P.eqDataS_of (a:List Data)(hf:∀x,x∈a→∀y,F.f156 x y=some (dec (x=y)))(b:List Data):F.f158 a b=some (dec (a=b)):=by
  unfold F.f158
  by_cases h:a.length=b.length
  · rw[if_pos h,eqLoop (L:=F.f157 a b) (fun i=>by rw[F.f157]) hf h _ 0 rfl]
    by_cases e:a=b
    · simp[e,dec_of]
    · simp[e,dec_not]
  · rw[if_neg h,dec_not]
    intro e;rw[e]at h;exact h rfl
theorem P.eqDataS (a b:List Data):F.f158 a b=some (dec (a=b)):=
  P.eqDataS_of a (fun x _ y=>P.eqData x y) b
-- held
theorem P.heldPatternS_A :∀m:Nat,(∀(r D:List Pattern) (k:Int),SizeOf.sizeOf r<m→0≤k→k+(Pattern.cntL r:Int)≤9223372036854775807→F.f160 (D++(Pattern.mkL r k).1) k D.length=some (.go (Pattern.mkL r k).2)):=by
  intro m
  induction m with
  |zero=>exact fun r D k h=>absurd h (Nat.not_lt_zero _)
  |succ m ih=>
    intro r D k hm h0 h
    induction r generalizing D k with
    |nil=>rw[F.f160,if_neg (by simp[Pattern.mkL])];simp[Pattern.mkL]
    |cons x r ihr=>
      have hr:SizeOf.sizeOf r<m+1:=by simp at hm;omega
      simp only[Pattern.cntL]at h
      have hE:(Pattern.mkE x k).2=k+(Pattern.cnt x:Int):=by
        have h2:=Pattern.mkL_snd [x] k h0 (by simp only[Pattern.cntL];omega)
        simpa[Pattern.mkL,Pattern.cntL]using h2
      obtain⟨A,hA⟩:∃A,A=(D++[(Pattern.mkE x k).1])++(Pattern.mkL r (Pattern.mkE x k).2).1:=⟨_,rfl⟩
      have h1:D++(Pattern.mkL (x::r) k).1=A:=by rw[hA];simp[Pattern.mkL]
      have hlt:D.length<A.length:=by rw[hA];simp
      have hget:A[D.length]? =some (Pattern.mkE x k).1:=by rw[hA];simp
      have ihr2:=ihr (D++[(Pattern.mkE x k).1]) (Pattern.mkE x k).2 hr (by rw[hE];omega) (by rw[hE];omega)
      rw[←hA]at ihr2
      simp only[List.length_append,List.length_cons,List.length_nil,Nat.zero_add]at ihr2
      have e2:(Pattern.mkL (x::r) k).2=(Pattern.mkL r (Pattern.mkE x k).2).2:=by rw[Pattern.mkL]
      rw[e2,h1,F.f160,if_pos hlt,hget]
      simp only[Option.bind_eq_bind,Option.bind_some]
      generalize hk2:(Pattern.mkE x k).2=k2 at ihr2 hE ⊢
      clear hA h1 hget e2 ihr
      obtain⟨op,ctor,n,m,var,kids⟩:=x
      simp only[Pattern.cnt]at h hE
      simp only[Pattern.mkE]at hk2 ⊢
      have w1:IntKind.i64.wrap (k+1)=k+1:=wrap_in (by omega) (by omega)
      rw[if_pos (by first|rfl|trivial)]
      have w2:IntKind.i64.wrap (k+1+1)=k+1+1:=wrap_in (by omega) (by omega)
      rw[if_pos (by first|rfl|trivial)]
      have w3:IntKind.i64.wrap (k+1+1+1)=k+1+1+1:=wrap_in (by omega) (by omega)
      rw[if_pos (by first|rfl|trivial)]
      have w4:IntKind.i64.wrap (k+1+1+1+1)=k+1+1+1+1:=wrap_in (by omega) (by omega)
      rw[if_pos (by first|rfl|trivial)]
      have w5:IntKind.i64.wrap (k+1+1+1+1+1)=k+1+1+1+1+1:=wrap_in (by omega) (by omega)
      rw[if_pos (by first|rfl|trivial)]
      have rw6:IntKind.i64.wrap ((IntKind.i64.wrap ((IntKind.i64.wrap ((IntKind.i64.wrap ((IntKind.i64.wrap (k+1))+1))+1))+1))+1)=k+1+1+1+1+1:=by simp only[w1,w2,w3,w4,w5]
      have qw6:F.f159 (Pattern.mkL kids (IntKind.i64.wrap ((IntKind.i64.wrap ((IntKind.i64.wrap ((IntKind.i64.wrap ((IntKind.i64.wrap (k+1))+1))+1))+1))+1))).1 (IntKind.i64.wrap ((IntKind.i64.wrap ((IntKind.i64.wrap ((IntKind.i64.wrap ((IntKind.i64.wrap (k+1))+1))+1))+1))+1))=some (Pattern.mkL kids (IntKind.i64.wrap ((IntKind.i64.wrap ((IntKind.i64.wrap ((IntKind.i64.wrap ((IntKind.i64.wrap (k+1))+1))+1))+1))+1))).2:=by
        have h3:=ih kids [] (IntKind.i64.wrap ((IntKind.i64.wrap ((IntKind.i64.wrap ((IntKind.i64.wrap ((IntKind.i64.wrap (k+1))+1))+1))+1))+1)) (by simp at hm;omega) (by rw[rw6];omega) (by rw[rw6];omega)
        simp only[List.nil_append,List.length_nil]at h3
        rw[F.f159,h3];rfl
      have w6:(Pattern.mkL kids (k+1+1+1+1+1)).2=k+1+1+1+1+1+(Pattern.cntL kids:Int):=Pattern.mkL_snd _ _ (by omega) (by omega)
      rw[qw6]
      simp only[Option.bind_some]
      rw[if_neg (by rw[rw6,w6];omega)]
      rw[hk2]
      exact ihr2
theorem P.heldPatternS_l1 (r D:List Pattern)(k:Int)(h0:0≤k)(h:k+(Pattern.cntL r:Int)≤9223372036854775807):F.f160 (D++(Pattern.mkL r k).1) k D.length=some (.go (Pattern.mkL r k).2):=(P.heldPatternS_A (SizeOf.sizeOf r+1)) r D k (Nat.lt_succ_self _) h0 h
theorem P.heldPatternS (l:List Pattern)(k:Int)(h0:0≤k)(h:k+(Pattern.cntL l:Int)≤9223372036854775807):F.f159 (Pattern.mkL l k).1 k=some (Pattern.mkL l k).2:=by
  unfold F.f159
  have:=P.heldPatternS_l1 l [] k h0 h
  simp only[List.nil_append,List.length_nil]at this
  rw[this]
  rfl
end Go.Vl
