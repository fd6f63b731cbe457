/- The plain lemmas of the counting, copying and comparing functions (printed by gen_p.py). -/
import Derived.Test.YtnbcpgpmeeminaaDoorExactFormatStepsF
import Derived.Test.YtnbcpgpmeeminaaDoorVlP
set_option linter.all false
namespace Go.Vl
open Go Go.RowKit
theorem P.szIntS (a:List Int)(ho:a.length≤maxLen)(l:Int)(h0:0≤l)(h1:l≤1048576):F.f0 a l=some (rem l (wtL (fun _=>0) a)):=by
  have hm:(a.length:Int)≤9223372036854775807:=by have:a.length≤9223372036854775807:=ho;omega
  have hw:wtL (fun _=>0) a=a.length:=wtL_zero (fun _=>rfl) a
  unfold F.f0
  rw[wrap_in (n:=l-a.length) (by omega) (by omega),hw]
  by_cases h:l-a.length<0
  · rw[if_pos h];simp only[rem];split
    · omega
    · rfl
  · rw[if_neg h,rem_sub _ h]
theorem P.szPathBind (x:PathBind)(ho:x.Ok)(l:Int)(h0:0≤l)(h1:l≤1048576):F.f1 x l=some (rem l x.wt):=by
  unfold F.f1
  rw[P.szIntS x.path ho.path.1 _ h0 h1]
  simp only[Option.bind_eq_bind,Option.bind_some]
  by_cases h1n:rem l (wtL (fun _=>0) x.path)<0
  · rw[if_pos h1n];congr 1;unfold PathBind.wt;simp only[rem]at h1n ⊢;split at h1n<;>split<;>omega
  rw[if_neg h1n]
  rfl
theorem P.szPathBindS_of (a:List PathBind)(ho:a.length≤maxLen)(hf:∀x,x∈a→∀l:Int,0≤l→l≤1048576→F.f1 x l=some (rem l (PathBind.wt x)))(l:Int)(h0:0≤l)(h1:l≤1048576):F.f3 a l=some (rem l (wtL PathBind.wt a)):=by
  have hm:(a.length:Int)≤9223372036854775807:=by have:a.length≤9223372036854775807:=ho;omega
  unfold F.f3
  rw[wrap_in (n:=l-a.length) (by omega) (by omega),wtL_eq]
  by_cases h:l-a.length<0
  · rw[if_pos h];simp only[rem];split
    · omega
    · rfl
  · have h2:¬rem l a.length<0:=by rw[←rem_sub _ h];exact h
    rw[if_neg h,rem_sub _ h,szLoop (L:=F.f2 a) (fun l i=>by rw[F.f2]) hf _ 0 _ rfl (by omega) (Int.le_trans (rem_le _ h0) h1),rem_rem _ _ h2]
    simp only[List.drop_zero,Option.bind_eq_bind,Option.bind_some]
    split
    · next h3=>
      split at h3
      · next h4=>cases h3;congr 1;simp only[rem]at h4 ⊢;split at h4<;>split<;>omega
      · cases h3
    · next h3=>
      split at h3
      · cases h3
      · cases h3;rfl
theorem P.szPathBindS (a:List PathBind)(ho:okL PathBind.Ok a)(l:Int)(h0:0≤l)(h1:l≤1048576):F.f3 a l=some (rem l (wtL PathBind.wt a)):=
  P.szPathBindS_of a ho.1 (fun x hx=>P.szPathBind x (ho.2 x hx)) l h0 h1
theorem P.szStep (x:Step)(ho:x.Ok)(l:Int)(h0:0≤l)(h1:l≤1048576):F.f4 x l=some (rem l x.wt):=by
  unfold F.f4
  rw[P.szIntS x.path ho.path.1 _ h0 h1]
  simp only[Option.bind_eq_bind,Option.bind_some]
  by_cases h1n:rem l (wtL (fun _=>0) x.path)<0
  · rw[if_pos h1n];congr 1;unfold Step.wt;simp only[rem]at h1n ⊢;split at h1n<;>split<;>omega
  rw[if_neg h1n]
  rw[P.szPathBindS x.binds ho.binds _ (by omega) (Int.le_trans (rem_le _ h0) h1)]
  simp only[Option.bind_eq_bind,Option.bind_some]
  rw[rem_rem _ _ h1n]
  by_cases h2n:rem l (wtL (fun _=>0) x.path+wtL PathBind.wt x.binds)<0
  · rw[if_pos h2n];congr 1;unfold Step.wt;simp only[rem]at h2n ⊢;split at h2n<;>split<;>omega
  rw[if_neg h2n]
  rfl
theorem P.szStepS_of (a:List Step)(ho:a.length≤maxLen)(hf:∀x,x∈a→∀l:Int,0≤l→l≤1048576→F.f4 x l=some (rem l (Step.wt x)))(l:Int)(h0:0≤l)(h1:l≤1048576):F.f6 a l=some (rem l (wtL Step.wt a)):=by
  have hm:(a.length:Int)≤9223372036854775807:=by have:a.length≤9223372036854775807:=ho;omega
  unfold F.f6
  rw[wrap_in (n:=l-a.length) (by omega) (by omega),wtL_eq]
  by_cases h:l-a.length<0
  · rw[if_pos h];simp only[rem];split
    · omega
    · rfl
  · have h2:¬rem l a.length<0:=by rw[←rem_sub _ h];exact h
    rw[if_neg h,rem_sub _ h,szLoop (L:=F.f5 a) (fun l i=>by rw[F.f5]) hf _ 0 _ rfl (by omega) (Int.le_trans (rem_le _ h0) h1),rem_rem _ _ h2]
    simp only[List.drop_zero,Option.bind_eq_bind,Option.bind_some]
    split
    · next h3=>
      split at h3
      · next h4=>cases h3;congr 1;simp only[rem]at h4 ⊢;split at h4<;>split<;>omega
      · cases h3
    · next h3=>
      split at h3
      · cases h3
      · cases h3;rfl
theorem P.szStepS (a:List Step)(ho:okL Step.Ok a)(l:Int)(h0:0≤l)(h1:l≤1048576):F.f6 a l=some (rem l (wtL Step.wt a)):=
  P.szStepS_of a ho.1 (fun x hx=>P.szStep x (ho.2 x hx)) l h0 h1
theorem P.toIntS (a:List Int)(hl:a.length≤67108864):F.f8 a=some a:=by
  unfold F.f8
  rw[if_pos hl,toLoop0 (a:=a) (L:=F.f7 a) (fun out i=>by rw[F.f7]) _ 0 (List.replicate a.length 0) rfl (by simp) rfl]
  rfl
theorem P.toPathBind (x:PathBind)(hw:x.wt≤67108864):F.f9 x=some x:=by
  unfold F.f9
  have hw2:=hw;unfold PathBind.wt at hw2
  rw[P.toIntS x.path (by have:=wtL_len (fun _:Int=>0) x.path;omega)]
  simp only[Option.bind_eq_bind,Option.bind_some]
  all_goals(cases x;rfl)
theorem P.toPathBindS_of (a:List PathBind)(hl:a.length≤67108864)(hf:∀x,x∈a→F.f9 x=some x):F.f11 a=some a:=by
  unfold F.f11
  rw[if_pos hl,toLoop (a:=a) (L:=F.f10 a) (fun out i=>by rw[F.f10]) hf _ 0 (List.replicate a.length PathBind.z) rfl (by simp) rfl]
  rfl
theorem P.toPathBindS (a:List PathBind)(hw:wtL PathBind.wt a≤67108864):F.f11 a=some a:=
  P.toPathBindS_of a (by have:=wtL_len PathBind.wt a;omega) (fun x hx=>P.toPathBind x (by have:=wtL_mem PathBind.wt hx;omega))
theorem P.toStep (x:Step)(hw:x.wt≤67108864):F.f12 x=some x:=by
  unfold F.f12
  have hw2:=hw;unfold Step.wt at hw2
  rw[P.toIntS x.path (by have:=wtL_len (fun _:Int=>0) x.path;omega)]
  simp only[Option.bind_eq_bind,Option.bind_some]
  rw[P.toPathBindS x.binds (by omega)]
  simp only[Option.bind_eq_bind,Option.bind_some]
  all_goals(cases x;rfl)
theorem P.toStepS_of (a:List Step)(hl:a.length≤67108864)(hf:∀x,x∈a→F.f12 x=some x):F.f14 a=some a:=by
  unfold F.f14
  rw[if_pos hl,toLoop (a:=a) (L:=F.f13 a) (fun out i=>by rw[F.f13]) hf _ 0 (List.replicate a.length Step.z) rfl (by simp) rfl]
  rfl
theorem P.toStepS (a:List Step)(hw:wtL Step.wt a≤67108864):F.f14 a=some a:=
  P.toStepS_of a (by have:=wtL_len Step.wt a;omega) (fun x hx=>P.toStep x (by have:=wtL_mem Step.wt hx;omega))
theorem P.eqIntS (a:List Int)(b:List Int):F.f31 a b=some (dec (a=b)):=by
  unfold F.f31
  by_cases h:a.length=b.length
  · rw[if_pos h,eqLoop0 (L:=F.f30 a b) (fun i=>by rw[F.f30]) h _ 0 rfl]
    by_cases e:a=b
    · simp[e,dec_of]
    · simp[e,dec_not]
  · rw[if_neg h,dec_not]
    intro e;rw[e]at h;exact h rfl
theorem P.eqPathBind (x y:PathBind):F.f32 x y=some (dec (x=y)):=by
  unfold F.f32
  simp only[P.eqIntS,Option.bind_eq_bind,Option.bind_some,dec_iff]
  cases x;cases y
  simp only[PathBind.mk.injEq]
  repeat' split
  all_goals first|(rw[dec_of];simp_all[dec_iff,dec_false_iff];done)|(rw[dec_not];simp_all[dec_iff,dec_false_iff];done)
theorem P.eqPathBindS_of (a:List PathBind)(hf:∀x,x∈a→∀y,F.f32 x y=some (dec (x=y)))(b:List PathBind):F.f34 a b=some (dec (a=b)):=by
  unfold F.f34
  by_cases h:a.length=b.length
  · rw[if_pos h,eqLoop (L:=F.f33 a b) (fun i=>by rw[F.f33]) hf h _ 0 rfl]
    by_cases e:a=b
    · simp[e,dec_of]
    · simp[e,dec_not]
  · rw[if_neg h,dec_not]
    intro e;rw[e]at h;exact h rfl
theorem P.eqPathBindS (a b:List PathBind):F.f34 a b=some (dec (a=b)):=
  P.eqPathBindS_of a (fun x _ y=>P.eqPathBind x y) b
theorem P.eqStep (x y:Step):F.f35 x y=some (dec (x=y)):=by
  unfold F.f35
  simp only[P.eqIntS,P.eqPathBindS,Option.bind_eq_bind,Option.bind_some,dec_iff]
  cases x;cases y
  simp only[Step.mk.injEq]
  repeat' split
  all_goals first|(rw[dec_of];simp_all[dec_iff,dec_false_iff];done)|(rw[dec_not];simp_all[dec_iff,dec_false_iff];done)
theorem P.eqStepS_of (a:List Step)(hf:∀x,x∈a→∀y,F.f35 x y=some (dec (x=y)))(b:List Step):F.f37 a b=some (dec (a=b)):=by
  unfold F.f37
  by_cases h:a.length=b.length
  · rw[if_pos h,eqLoop (L:=F.f36 a b) (fun i=>by rw[F.f36]) hf h _ 0 rfl]
    by_cases e:a=b
    · simp[e,dec_of]
    · simp[e,dec_not]
  · rw[if_neg h,dec_not]
    intro e;rw[e]at h;exact h rfl
theorem P.eqStepS (a b:List Step):F.f37 a b=some (dec (a=b)):=
  P.eqStepS_of a (fun x _ y=>P.eqStep x y) b
end Go.Vl
