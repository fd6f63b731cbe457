/- The plain lemmas of the counting, copying and comparing functions (printed by gen_p.py). -/
import Derived.Test.YtnbcpgpmeeminaaDoorExactFormatNodesF
import Derived.Test.YtnbcpgpmeeminaaDoorVlP
set_option linter.all false
namespace Go.Vl
open Go Go.RowKit
theorem P.szIntS (a:List Int)(ho:a.length≤maxLen)(l:Int)(h0:0≤l)(h1:l≤1048576):F.f0 a l=some (rem l (wtL (fun _=>0) a)):=by
  have hm:(a.length:Int)≤9223372036854775807:=by have:a.length≤9223372036854775807:=ho;omega
  have hw:wtL (fun _=>0) a=a.length:=wtL_zero (fun _=>rfl) a
  unfold F.f0
  rw[wrap_in (n:=l-a.length) (by omega) (by omega),hw]
  by_cases h:l-a.length<0
  · rw[if_pos h];simp only[rem];split
    · omega
    · rfl
  · rw[if_neg h,rem_sub _ h]
theorem P.szPathBind (x:PathBind)(ho:x.Ok)(l:Int)(h0:0≤l)(h1:l≤1048576):F.f1 x l=some (rem l x.wt):=by
  unfold F.f1
  rw[P.szIntS x.path ho.path.1 _ h0 h1]
  simp only[Option.bind_eq_bind,Option.bind_some]
  by_cases h1n:rem l (wtL (fun _=>0) x.path)<0
  · rw[if_pos h1n];congr 1;unfold PathBind.wt;simp only[rem]at h1n ⊢;split at h1n<;>split<;>omega
  rw[if_neg h1n]
  rfl
theorem P.szPathBindS_of (a:List PathBind)(ho:a.length≤maxLen)(hf:∀x,x∈a→∀l:Int,0≤l→l≤1048576→F.f1 x l=some (rem l (PathBind.wt x)))(l:Int)(h0:0≤l)(h1:l≤1048576):F.f3 a l=some (rem l (wtL PathBind.wt a)):=by
  have hm:(a.length:Int)≤9223372036854775807:=by have:a.length≤9223372036854775807:=ho;omega
  unfold F.f3
  rw[wrap_in (n:=l-a.length) (by omega) (by omega),wtL_eq]
  by_cases h:l-a.length<0
  · rw[if_pos h];simp only[rem];split
    · omega
    · rfl
  · have h2:¬rem l a.length<0:=by rw[←rem_sub _ h];exact h
    rw[if_neg h,rem_sub _ h,szLoop (L:=F.f2 a) (fun l i=>by rw[F.f2]) hf _ 0 _ rfl (by omega) (Int.le_trans (rem_le _ h0) h1),rem_rem _ _ h2]
    simp only[List.drop_zero,Option.bind_eq_bind,Option.bind_some]
    split
    · next h3=>
      split at h3
      · next h4=>cases h3;congr 1;simp only[rem]at h4 ⊢;split at h4<;>split<;>omega
      · cases h3
    · next h3=>
      split at h3
      · cases h3
      · cases h3;rfl
theorem P.szPathBindS (a:List PathBind)(ho:okL PathBind.Ok a)(l:Int)(h0:0≤l)(h1:l≤1048576):F.f3 a l=some (rem l (wtL PathBind.wt a)):=
  P.szPathBindS_of a ho.1 (fun x hx=>P.szPathBind x (ho.2 x hx)) l h0 h1
theorem P.szEdgeS (a:List Edge)(ho:a.length≤maxLen)(l:Int)(h0:0≤l)(h1:l≤1048576):F.f4 a l=some (rem l (wtL Edge.wt a)):=by
  have hm:(a.length:Int)≤9223372036854775807:=by have:a.length≤9223372036854775807:=ho;omega
  have hw:wtL Edge.wt a=a.length:=wtL_zero (fun _=>rfl) a
  unfold F.f4
  rw[wrap_in (n:=l-a.length) (by omega) (by omega),hw]
  by_cases h:l-a.length<0
  · rw[if_pos h];simp only[rem];split
    · omega
    · rfl
  · rw[if_neg h,rem_sub _ h]
theorem P.szNode (x:Node)(ho:x.Ok)(l:Int)(h0:0≤l)(h1:l≤1048576):F.f5 x l=some (rem l x.wt):=by
  unfold F.f5
  rw[P.szPathBindS x.binds ho.binds _ h0 h1]
  simp only[Option.bind_eq_bind,Option.bind_some]
  by_cases h1n:rem l (wtL PathBind.wt x.binds)<0
  · rw[if_pos h1n];congr 1;unfold Node.wt;simp only[rem]at h1n ⊢;split at h1n<;>split<;>omega
  rw[if_neg h1n]
  rw[P.szIntS x.path ho.path.1 _ (by omega) (Int.le_trans (rem_le _ h0) h1)]
  simp only[Option.bind_eq_bind,Option.bind_some]
  rw[rem_rem _ _ h1n]
  by_cases h2n:rem l (wtL PathBind.wt x.binds+wtL (fun _=>0) x.path)<0
  · rw[if_pos h2n];congr 1;unfold Node.wt;simp only[rem]at h2n ⊢;split at h2n<;>split<;>omega
  rw[if_neg h2n]
  rw[P.szEdgeS x.edges ho.edges.1 _ (by omega) (Int.le_trans (rem_le _ h0) h1)]
  simp only[Option.bind_eq_bind,Option.bind_some]
  rw[rem_rem _ _ h2n]
  by_cases h3n:rem l (wtL PathBind.wt x.binds+wtL (fun _=>0) x.path+wtL Edge.wt x.edges)<0
  · rw[if_pos h3n];congr 1;unfold Node.wt;simp only[rem]at h3n ⊢;split at h3n<;>split<;>omega
  rw[if_neg h3n]
  rfl
theorem P.szNodeS_of (a:List Node)(ho:a.length≤maxLen)(hf:∀x,x∈a→∀l:Int,0≤l→l≤1048576→F.f5 x l=some (rem l (Node.wt x)))(l:Int)(h0:0≤l)(h1:l≤1048576):F.f7 a l=some (rem l (wtL Node.wt a)):=by
  have hm:(a.length:Int)≤9223372036854775807:=by have:a.length≤9223372036854775807:=ho;omega
  unfold F.f7
  rw[wrap_in (n:=l-a.length) (by omega) (by omega),wtL_eq]
  by_cases h:l-a.length<0
  · rw[if_pos h];simp only[rem];split
    · omega
    · rfl
  · have h2:¬rem l a.length<0:=by rw[←rem_sub _ h];exact h
    rw[if_neg h,rem_sub _ h,szLoop (L:=F.f6 a) (fun l i=>by rw[F.f6]) hf _ 0 _ rfl (by omega) (Int.le_trans (rem_le _ h0) h1),rem_rem _ _ h2]
    simp only[List.drop_zero,Option.bind_eq_bind,Option.bind_some]
    split
    · next h3=>
      split at h3
      · next h4=>cases h3;congr 1;simp only[rem]at h4 ⊢;split at h4<;>split<;>omega
      · cases h3
    · next h3=>
      split at h3
      · cases h3
      · cases h3;rfl
theorem P.szNodeS (a:List Node)(ho:okL Node.Ok a)(l:Int)(h0:0≤l)(h1:l≤1048576):F.f7 a l=some (rem l (wtL Node.wt a)):=
  P.szNodeS_of a ho.1 (fun x hx=>P.szNode x (ho.2 x hx)) l h0 h1
theorem P.toIntS (a:List Int)(hl:a.length≤67108864):F.f9 a=some a:=by
  unfold F.f9
  rw[if_pos hl,toLoop0 (a:=a) (L:=F.f8 a) (fun out i=>by rw[F.f8]) _ 0 (List.replicate a.length 0) rfl (by simp) rfl]
  rfl
theorem P.toPathBind (x:PathBind)(hw:x.wt≤67108864):F.f10 x=some x:=by
  unfold F.f10
  have hw2:=hw;unfold PathBind.wt at hw2
  rw[P.toIntS x.path (by have:=wtL_len (fun _:Int=>0) x.path;omega)]
  simp only[Option.bind_eq_bind,Option.bind_some]
  all_goals(cases x;rfl)
theorem P.toPathBindS_of (a:List PathBind)(hl:a.length≤67108864)(hf:∀x,x∈a→F.f10 x=some x):F.f12 a=some a:=by
  unfold F.f12
  rw[if_pos hl,toLoop (a:=a) (L:=F.f11 a) (fun out i=>by rw[F.f11]) hf _ 0 (List.replicate a.length PathBind.z) rfl (by simp) rfl]
  rfl
theorem P.toPathBindS (a:List PathBind)(hw:wtL PathBind.wt a≤67108864):F.f12 a=some a:=
  P.toPathBindS_of a (by have:=wtL_len PathBind.wt a;omega) (fun x hx=>P.toPathBind x (by have:=wtL_mem PathBind.wt hx;omega))
theorem P.toEdge (x:Edge)(hw:x.wt≤67108864):F.f13 x=some x:=by
  rfl
theorem P.toEdgeS_of (a:List Edge)(hl:a.length≤67108864)(hf:∀x,x∈a→F.f13 x=some x):F.f15 a=some a:=by
  unfold F.f15
  rw[if_pos hl,toLoop (a:=a) (L:=F.f14 a) (fun out i=>by rw[F.f14]) hf _ 0 (List.replicate a.length Edge.z) rfl (by simp) rfl]
  rfl
theorem P.toEdgeS (a:List Edge)(hw:wtL Edge.wt a≤67108864):F.f15 a=some a:=
  P.toEdgeS_of a (by have:=wtL_len Edge.wt a;omega) (fun x hx=>P.toEdge x (by have:=wtL_mem Edge.wt hx;omega))
theorem P.toNode (x:Node)(hw:x.wt≤67108864):F.f16 x=some x:=by
  unfold F.f16
  have hw2:=hw;unfold Node.wt at hw2
  rw[P.toPathBindS x.binds (by omega)]
  simp only[Option.bind_eq_bind,Option.bind_some]
  rw[P.toIntS x.path (by have:=wtL_len (fun _:Int=>0) x.path;omega)]
  simp only[Option.bind_eq_bind,Option.bind_some]
  rw[P.toEdgeS x.edges (by omega)]
  simp only[Option.bind_eq_bind,Option.bind_some]
  all_goals(cases x;rfl)
theorem P.toNodeS_of (a:List Node)(hl:a.length≤67108864)(hf:∀x,x∈a→F.f16 x=some x):F.f18 a=some a:=by
  unfold F.f18
  rw[if_pos hl,toLoop (a:=a) (L:=F.f17 a) (fun out i=>by rw[F.f17]) hf _ 0 (List.replicate a.length Node.z) rfl (by simp) rfl]
  rfl
theorem P.toNodeS (a:List Node)(hw:wtL Node.wt a≤67108864):F.f18 a=some a:=
  P.toNodeS_of a (by have:=wtL_len Node.wt a;omega) (fun x hx=>P.toNode x (by have:=wtL_mem Node.wt hx;omega))
theorem P.eqIntS (a:List Int)(b:List Int):F.f48 a b=some (dec (a=b)):=by
  unfold F.f48
  by_cases h:a.length=b.length
  · rw[if_pos h,eqLoop0 (L:=F.f47 a b) (fun i=>by rw[F.f47]) h _ 0 rfl]
    by_cases e:a=b
    · simp[e,dec_of]
    · simp[e,dec_not]
  · rw[if_neg h,dec_not]
    intro e;rw[e]at h;exact h rfl
theorem P.eqPathBind (x y:PathBind):F.f49 x y=some (dec (x=y)):=by
  unfold F.f49
  simp only[P.eqIntS,Option.bind_eq_bind,Option.bind_some,dec_iff]
  cases x;cases y
  simp only[PathBind.mk.injEq]
  repeat' split
  all_goals first|(rw[dec_of];simp_all[dec_iff,dec_false_iff];done)|(rw[dec_not];simp_all[dec_iff,dec_false_iff];done)
theorem P.eqPathBindS_of (a:List PathBind)(hf:∀x,x∈a→∀y,F.f49 x y=some (dec (x=y)))(b:List PathBind):F.f51 a b=some (dec (a=b)):=by
  unfold F.f51
  by_cases h:a.length=b.length
  · rw[if_pos h,eqLoop (L:=F.f50 a b) (fun i=>by rw[F.f50]) hf h _ 0 rfl]
    by_cases e:a=b
    · simp[e,dec_of]
    · simp[e,dec_not]
  · rw[if_neg h,dec_not]
    intro e;rw[e]at h;exact h rfl
theorem P.eqPathBindS (a b:List PathBind):F.f51 a b=some (dec (a=b)):=
  P.eqPathBindS_of a (fun x _ y=>P.eqPathBind x y) b
theorem P.eqEdge (x y:Edge):F.f52 x y=some (dec (x=y)):=by
  unfold F.f52
  cases x;cases y
  simp only[Edge.mk.injEq]
  repeat' split
  all_goals first|(rw[dec_of];simp_all[dec_iff,dec_false_iff];done)|(rw[dec_not];simp_all[dec_iff,dec_false_iff];done)
theorem P.eqEdgeS_of (a:List Edge)(hf:∀x,x∈a→∀y,F.f52 x y=some (dec (x=y)))(b:List Edge):F.f54 a b=some (dec (a=b)):=by
  unfold F.f54
  by_cases h:a.length=b.length
  · rw[if_pos h,eqLoop (L:=F.f53 a b) (fun i=>by rw[F.f53]) hf h _ 0 rfl]
    by_cases e:a=b
    · simp[e,dec_of]
    · simp[e,dec_not]
  · rw[if_neg h,dec_not]
    intro e;rw[e]at h;exact h rfl
theorem P.eqEdgeS (a b:List Edge):F.f54 a b=some (dec (a=b)):=
  P.eqEdgeS_of a (fun x _ y=>P.eqEdge x y) b
theorem P.eqNode (x y:Node):F.f55 x y=some (dec (x=y)):=by
  unfold F.f55
  simp only[P.eqPathBindS,P.eqIntS,P.eqEdgeS,Option.bind_eq_bind,Option.bind_some,dec_iff]
  cases x;cases y
  simp only[Node.mk.injEq]
  repeat' split
  all_goals first|(rw[dec_of];simp_all[dec_iff,dec_false_iff];done)|(rw[dec_not];simp_all[dec_iff,dec_false_iff];done)
theorem P.eqNodeS_of (a:List Node)(hf:∀x,x∈a→∀y,F.f55 x y=some (dec (x=y)))(b:List Node):F.f57 a b=some (dec (a=b)):=by
  unfold F.f57
  by_cases h:a.length=b.length
  · rw[if_pos h,eqLoop (L:=F.f56 a b) (fun i=>by rw[F.f56]) hf h _ 0 rfl]
    by_cases e:a=b
    · simp[e,dec_of]
    · simp[e,dec_not]
  · rw[if_neg h,dec_not]
    intro e;rw[e]at h;exact h rfl
theorem P.eqNodeS (a b:List Node):F.f57 a b=some (dec (a=b)):=
  P.eqNodeS_of a (fun x _ y=>P.eqNode x y) b
end Go.Vl
