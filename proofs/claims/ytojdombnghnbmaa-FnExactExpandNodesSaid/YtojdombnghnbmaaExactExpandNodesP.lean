/- The plain lemmas of the counting, copying and comparing functions (printed by gen_p.py). -/
import Derived.Test.YtojdombnghnbmaaExactExpandNodesF
import Derived.Test.YtojdombnghnbmaaVlP
set_option linter.unusedSimpArgs false
set_option linter.unusedVariables false
namespace Go.Vl
open Go Go.RowKit
theorem P.szIntS (a:List Int)(ho:a.length≤maxLen)(l:Int)(h0:0≤l)(h1:l≤1048576):F.f0 a l=some (rem l (wtL (fun _=>0) a)):=by
  have hm:(a.length:Int)≤9223372036854775807:=by have:a.length≤9223372036854775807:=ho;omega
  have hw:wtL (fun _=>0) a=a.length:=wtL_zero (fun _=>rfl) a
  unfold F.f0
  rw[wrap_in (n:=l-a.length) (by omega) (by omega),hw]
  by_cases h:l-a.length<0
  · rw[if_pos h];simp only[rem];split
    · omega
    · rfl
  · rw[if_neg h,rem_sub _ h]
theorem P.szPathBind (x:PathBind)(ho:x.Ok)(l:Int)(h0:0≤l)(h1:l≤1048576):F.f1 x l=some (rem l x.wt):=by
  unfold F.f1
  rw[P.szIntS x.path ho.path.1 _ h0 h1]
  simp only[Option.bind_eq_bind,Option.bind_some]
  by_cases h1n:rem l (wtL (fun _=>0) x.path)<0
  · rw[if_pos h1n];congr 1;unfold PathBind.wt;simp only[rem]at h1n ⊢;split at h1n<;>split<;>omega
  rw[if_neg h1n]
  rfl
theorem P.szPathBindS_of (a:List PathBind)(ho:a.length≤maxLen)(hf:∀x,x∈a→∀l:Int,0≤l→l≤1048576→F.f1 x l=some (rem l (PathBind.wt x)))(l:Int)(h0:0≤l)(h1:l≤1048576):F.f3 a l=some (rem l (wtL PathBind.wt a)):=by
  have hm:(a.length:Int)≤9223372036854775807:=by have:a.length≤9223372036854775807:=ho;omega
  unfold F.f3
  rw[wrap_in (n:=l-a.length) (by omega) (by omega),wtL_eq]
  by_cases h:l-a.length<0
  · rw[if_pos h];simp only[rem];split
    · omega
    · rfl
  · have h2:¬rem l a.length<0:=by rw[←rem_sub _ h];exact h
    rw[if_neg h,rem_sub _ h,szLoop (L:=F.f2 a) (fun l i=>by rw[F.f2]) hf _ 0 _ rfl (by omega) (Int.le_trans (rem_le _ h0) h1),rem_rem _ _ h2]
    simp only[List.drop_zero,Option.bind_eq_bind,Option.bind_some]
    split
    · next h3=>
      split at h3
      · next h4=>cases h3;congr 1;simp only[rem]at h4 ⊢;split at h4<;>split<;>omega
      · cases h3
    · next h3=>
      split at h3
      · cases h3
      · cases h3;rfl
theorem P.szPathBindS (a:List PathBind)(ho:okL PathBind.Ok a)(l:Int)(h0:0≤l)(h1:l≤1048576):F.f3 a l=some (rem l (wtL PathBind.wt a)):=
  P.szPathBindS_of a ho.1 (fun x hx=>P.szPathBind x (ho.2 x hx)) l h0 h1
theorem P.szEdgeS (a:List Edge)(ho:a.length≤maxLen)(l:Int)(h0:0≤l)(h1:l≤1048576):F.f4 a l=some (rem l (wtL Edge.wt a)):=by
  have hm:(a.length:Int)≤9223372036854775807:=by have:a.length≤9223372036854775807:=ho;omega
  have hw:wtL Edge.wt a=a.length:=wtL_zero (fun _=>rfl) a
  unfold F.f4
  rw[wrap_in (n:=l-a.length) (by omega) (by omega),hw]
  by_cases h:l-a.length<0
  · rw[if_pos h];simp only[rem];split
    · omega
    · rfl
  · rw[if_neg h,rem_sub _ h]
theorem P.szNode (x:Node)(ho:x.Ok)(l:Int)(h0:0≤l)(h1:l≤1048576):F.f5 x l=some (rem l x.wt):=by
  unfold F.f5
  rw[P.szPathBindS x.binds ho.binds _ h0 h1]
  simp only[Option.bind_eq_bind,Option.bind_some]
  by_cases h1n:rem l (wtL PathBind.wt x.binds)<0
  · rw[if_pos h1n];congr 1;unfold Node.wt;simp only[rem]at h1n ⊢;split at h1n<;>split<;>omega
  rw[if_neg h1n]
  rw[P.szIntS x.path ho.path.1 _ (by omega) (Int.le_trans (rem_le _ h0) h1)]
  simp only[Option.bind_eq_bind,Option.bind_some]
  rw[rem_rem _ _ h1n]
  by_cases h2n:rem l (wtL PathBind.wt x.binds+wtL (fun _=>0) x.path)<0
  · rw[if_pos h2n];congr 1;unfold Node.wt;simp only[rem]at h2n ⊢;split at h2n<;>split<;>omega
  rw[if_neg h2n]
  rw[P.szEdgeS x.edges ho.edges.1 _ (by omega) (Int.le_trans (rem_le _ h0) h1)]
  simp only[Option.bind_eq_bind,Option.bind_some]
  rw[rem_rem _ _ h2n]
  by_cases h3n:rem l (wtL PathBind.wt x.binds+wtL (fun _=>0) x.path+wtL Edge.wt x.edges)<0
  · rw[if_pos h3n];congr 1;unfold Node.wt;simp only[rem]at h3n ⊢;split at h3n<;>split<;>omega
  rw[if_neg h3n]
  rfl
theorem P.szNodeS_of (a:List Node)(ho:a.length≤maxLen)(hf:∀x,x∈a→∀l:Int,0≤l→l≤1048576→F.f5 x l=some (rem l (Node.wt x)))(l:Int)(h0:0≤l)(h1:l≤1048576):F.f7 a l=some (rem l (wtL Node.wt a)):=by
  have hm:(a.length:Int)≤9223372036854775807:=by have:a.length≤9223372036854775807:=ho;omega
  unfold F.f7
  rw[wrap_in (n:=l-a.length) (by omega) (by omega),wtL_eq]
  by_cases h:l-a.length<0
  · rw[if_pos h];simp only[rem];split
    · omega
    · rfl
  · have h2:¬rem l a.length<0:=by rw[←rem_sub _ h];exact h
    rw[if_neg h,rem_sub _ h,szLoop (L:=F.f6 a) (fun l i=>by rw[F.f6]) hf _ 0 _ rfl (by omega) (Int.le_trans (rem_le _ h0) h1),rem_rem _ _ h2]
    simp only[List.drop_zero,Option.bind_eq_bind,Option.bind_some]
    split
    · next h3=>
      split at h3
      · next h4=>cases h3;congr 1;simp only[rem]at h4 ⊢;split at h4<;>split<;>omega
      · cases h3
    · next h3=>
      split at h3
      · cases h3
      · cases h3;rfl
theorem P.szNodeS (a:List Node)(ho:okL Node.Ok a)(l:Int)(h0:0≤l)(h1:l≤1048576):F.f7 a l=some (rem l (wtL Node.wt a)):=
  P.szNodeS_of a ho.1 (fun x hx=>P.szNode x (ho.2 x hx)) l h0 h1
theorem P.toIntS (a:List Int)(hl:a.length≤67108864):F.f9 a=some a:=by
  unfold F.f9
  rw[if_pos hl,toLoop0 (a:=a) (L:=F.f8 a) (fun out i=>by rw[F.f8]) _ 0 (List.replicate a.length (0:Int)) rfl (by simp) rfl]
  rfl
theorem P.toPathBind (x:PathBind)(hw:x.wt≤67108864):F.f10 x=some x:=by
  unfold F.f10
  have hw2:=hw;unfold PathBind.wt at hw2
  rw[P.toIntS x.path (by have:=wtL_len (fun _:Int=>0) x.path;omega)]
  simp only[Option.bind_eq_bind,Option.bind_some]
  all_goals(cases x;rfl)
theorem P.toPathBindS_of (a:List PathBind)(hl:a.length≤67108864)(hf:∀x,x∈a→F.f10 x=some x):F.f12 a=some a:=by
  unfold F.f12
  rw[if_pos hl,toLoop (a:=a) (L:=F.f11 a) (fun out i=>by rw[F.f11]) hf _ 0 (List.replicate a.length PathBind.z) rfl (by simp) rfl]
  rfl
theorem P.toPathBindS (a:List PathBind)(hw:wtL PathBind.wt a≤67108864):F.f12 a=some a:=
  P.toPathBindS_of a (by have:=wtL_len PathBind.wt a;omega) (fun x hx=>P.toPathBind x (by have:=wtL_mem PathBind.wt hx;omega))
theorem P.toEdge (x:Edge)(hw:x.wt≤67108864):F.f13 x=some x:=by
  rfl
theorem P.toEdgeS_of (a:List Edge)(hl:a.length≤67108864)(hf:∀x,x∈a→F.f13 x=some x):F.f15 a=some a:=by
  unfold F.f15
  rw[if_pos hl,toLoop (a:=a) (L:=F.f14 a) (fun out i=>by rw[F.f14]) hf _ 0 (List.replicate a.length Edge.z) rfl (by simp) rfl]
  rfl
theorem P.toEdgeS (a:List Edge)(hw:wtL Edge.wt a≤67108864):F.f15 a=some a:=
  P.toEdgeS_of a (by have:=wtL_len Edge.wt a;omega) (fun x hx=>P.toEdge x (by have:=wtL_mem Edge.wt hx;omega))
theorem P.toNode (x:Node)(hw:x.wt≤67108864):F.f16 x=some x:=by
  unfold F.f16
  have hw2:=hw;unfold Node.wt at hw2
  rw[P.toPathBindS x.binds (by omega)]
  simp only[Option.bind_eq_bind,Option.bind_some]
  rw[P.toIntS x.path (by have:=wtL_len (fun _:Int=>0) x.path;omega)]
  simp only[Option.bind_eq_bind,Option.bind_some]
  rw[P.toEdgeS x.edges (by omega)]
  simp only[Option.bind_eq_bind,Option.bind_some]
  all_goals(cases x;rfl)
theorem P.toNodeS_of (a:List Node)(hl:a.length≤67108864)(hf:∀x,x∈a→F.f16 x=some x):F.f18 a=some a:=by
  unfold F.f18
  rw[if_pos hl,toLoop (a:=a) (L:=F.f17 a) (fun out i=>by rw[F.f17]) hf _ 0 (List.replicate a.length Node.z) rfl (by simp) rfl]
  rfl
theorem P.toNodeS (a:List Node)(hw:wtL Node.wt a≤67108864):F.f18 a=some a:=
  P.toNodeS_of a (by have:=wtL_len Node.wt a;omega) (fun x hx=>P.toNode x (by have:=wtL_mem Node.wt hx;omega))
theorem P.eqIntS (a:List Int)(b:List Int):F.f45 a b=some (dec (a=b)):=by
  unfold F.f45
  by_cases h:a.length=b.length
  · rw[if_pos h,eqLoop0 (L:=F.f44 a b) (fun i=>by rw[F.f44]) h _ 0 rfl]
    by_cases e:a=b
    · simp[e,dec_of]
    · simp[e,dec_not]
  · rw[if_neg h,dec_not]
    intro e;rw[e]at h;exact h rfl
theorem P.eqPathBind (x y:PathBind):F.f46 x y=some (dec (x=y)):=by
  unfold F.f46
  simp only[P.eqIntS,Option.bind_eq_bind,Option.bind_some,dec_iff]
  cases x;cases y
  simp only[PathBind.mk.injEq]
  repeat' split
  all_goals first|(rw[dec_of];simp_all[dec_iff,dec_false_iff];done)|(rw[dec_not];simp_all[dec_iff,dec_false_iff];done)
theorem P.eqPathBindS_of (a:List PathBind)(hf:∀x,x∈a→∀y,F.f46 x y=some (dec (x=y)))(b:List PathBind):F.f48 a b=some (dec (a=b)):=by
  unfold F.f48
  by_cases h:a.length=b.length
  · rw[if_pos h,eqLoop (L:=F.f47 a b) (fun i=>by rw[F.f47]) hf h _ 0 rfl]
    by_cases e:a=b
    · simp[e,dec_of]
    · simp[e,dec_not]
  · rw[if_neg h,dec_not]
    intro e;rw[e]at h;exact h rfl
theorem P.eqPathBindS (a b:List PathBind):F.f48 a b=some (dec (a=b)):=
  P.eqPathBindS_of a (fun x _ y=>P.eqPathBind x y) b
theorem P.eqBranchS_of (a:List Branch)(hf:∀x,x∈a→∀y,F.f49 x y=some (dec (x=y)))(b:List Branch):F.f50 a b=some (dec (a=b)):=by
  unfold F.f50
  by_cases h:a.length=b.length
  · rw[if_pos h,eqLoop (L:=F.f53 a b) (fun i=>by rw[F.f53]) hf h _ 0 rfl]
    by_cases e:a=b
    · simp[e,dec_of]
    · simp[e,dec_not]
  · rw[if_neg h,dec_not]
    intro e;rw[e]at h;exact h rfl
theorem P.eqTreeS_of (a:List Tree)(hf:∀x,x∈a→∀y,F.f51 x y=some (dec (x=y)))(b:List Tree):F.f52 a b=some (dec (a=b)):=by
  unfold F.f52
  by_cases h:a.length=b.length
  · rw[if_pos h,eqLoop (L:=F.f54 a b) (fun i=>by rw[F.f54]) hf h _ 0 rfl]
    by_cases e:a=b
    · simp[e,dec_of]
    · simp[e,dec_not]
  · rw[if_neg h,dec_not]
    intro e;rw[e]at h;exact h rfl
theorem P.eqBranch_of (x:Branch)(h:∀y,F.f51 x.tree y=some (dec (x.tree=y)))(y:Branch):F.f49 x y=some (dec (x=y)):=by
  unfold F.f49
  simp only[h,Option.bind_eq_bind,Option.bind_some,dec_iff]
  cases x;cases y
  simp only[BranchOf.mk.injEq]
  repeat' split
  all_goals first|(rw[dec_of];simp_all[dec_iff,dec_false_iff];done)|(rw[dec_not];simp_all[dec_iff,dec_false_iff];done)
theorem P.eqTree (x y:Tree):F.f51 x y=some (dec (x=y)):=by
  induction x using Tree.ind generalizing y with
  |_ x ihb ihe=>
  unfold F.f51
  simp only[P.eqPathBindS,P.eqIntS,P.eqBranchS_of x.branches (fun b hb c=>P.eqBranch_of b (ihb b hb) c),P.eqTreeS_of x.els (fun k hk y=>ihe k hk y),Option.bind_eq_bind,Option.bind_some,dec_iff]
  cases x;cases y
  simp only[Tree.mk.injEq]
  repeat' split
  all_goals first|(rw[dec_of];simp_all[dec_iff,dec_false_iff];done)|(rw[dec_not];simp_all[dec_iff,dec_false_iff];done)
theorem P.eqBranch (x y:Branch):F.f49 x y=some (dec (x=y)):=P.eqBranch_of x (P.eqTree x.tree) y
theorem P.eqBranchS (a b:List Branch):F.f50 a b=some (dec (a=b)):=
  P.eqBranchS_of a (fun x _ y=>P.eqBranch x y) b
theorem P.eqTreeS (a b:List Tree):F.f52 a b=some (dec (a=b)):=
  P.eqTreeS_of a (fun x _ y=>P.eqTree x y) b
theorem P.eqEdge (x y:Edge):F.f55 x y=some (dec (x=y)):=by
  unfold F.f55
  cases x;cases y
  simp only[Edge.mk.injEq]
  repeat' split
  all_goals first|(rw[dec_of];simp_all[dec_iff,dec_false_iff];done)|(rw[dec_not];simp_all[dec_iff,dec_false_iff];done)
theorem P.eqEdgeS_of (a:List Edge)(hf:∀x,x∈a→∀y,F.f55 x y=some (dec (x=y)))(b:List Edge):F.f57 a b=some (dec (a=b)):=by
  unfold F.f57
  by_cases h:a.length=b.length
  · rw[if_pos h,eqLoop (L:=F.f56 a b) (fun i=>by rw[F.f56]) hf h _ 0 rfl]
    by_cases e:a=b
    · simp[e,dec_of]
    · simp[e,dec_not]
  · rw[if_neg h,dec_not]
    intro e;rw[e]at h;exact h rfl
theorem P.eqEdgeS (a b:List Edge):F.f57 a b=some (dec (a=b)):=
  P.eqEdgeS_of a (fun x _ y=>P.eqEdge x y) b
theorem P.eqNode (x y:Node):F.f58 x y=some (dec (x=y)):=by
  unfold F.f58
  simp only[P.eqPathBindS,P.eqIntS,P.eqEdgeS,Option.bind_eq_bind,Option.bind_some,dec_iff]
  cases x;cases y
  simp only[Node.mk.injEq]
  repeat' split
  all_goals first|(rw[dec_of];simp_all[dec_iff,dec_false_iff];done)|(rw[dec_not];simp_all[dec_iff,dec_false_iff];done)
theorem P.eqNodeS_of (a:List Node)(hf:∀x,x∈a→∀y,F.f58 x y=some (dec (x=y)))(b:List Node):F.f60 a b=some (dec (a=b)):=by
  unfold F.f60
  by_cases h:a.length=b.length
  · rw[if_pos h,eqLoop (L:=F.f59 a b) (fun i=>by rw[F.f59]) hf h _ 0 rfl]
    by_cases e:a=b
    · simp[e,dec_of]
    · simp[e,dec_not]
  · rw[if_neg h,dec_not]
    intro e;rw[e]at h;exact h rfl
theorem P.eqNodeS (a b:List Node):F.f60 a b=some (dec (a=b)):=
  P.eqNodeS_of a (fun x _ y=>P.eqNode x y) b
-- held
theorem P.heldIntS_l1 :∀(r D:List Int) (k:Int),0≤k→k+(cntI r:Int)≤9223372036854775807→F.f61 (D++(mkI r k).1) k D.length=some (.go (mkI r k).2)
  | [],D,k,_,_=>by
    rw[F.f61,if_neg (by simp[mkI])];rfl
  |x::r,D,k,h0,h=>by
    simp only[cntI,List.length_cons]at h
    obtain⟨A,hA⟩:∃A,A=(D++[k])++(mkI r (IntKind.i64.wrap (k+1))).1:=⟨_,rfl⟩
    have h1:D++(mkI (x::r) k).1=A:=by rw[hA];simp[mkI]
    have hlt:D.length<A.length:=by rw[hA];simp
    have hget:A[D.length]? =some k:=by rw[hA];simp
    have w:IntKind.i64.wrap (k+1)=k+1:=wrap_in (by omega) (by omega)
    have ihr:=P.heldIntS_l1 r (D++[k]) (IntKind.i64.wrap (k+1)) (by rw[w];omega) (by rw[w];simp only[cntI];omega)
    rw[←hA]at ihr
    simp only[List.length_append,List.length_cons,List.length_nil,Nat.zero_add]at ihr
    rw[h1,F.f61,if_pos hlt,hget]
    simp only[Option.bind_eq_bind,Option.bind_some,if_true]
    exact ihr
theorem P.heldIntS (l:List Int)(k:Int)(h0:0≤k)(h:k+(cntI l:Int)≤9223372036854775807):F.f62 (mkI l k).1 k=some (mkI l k).2:=by
  unfold F.f62
  have:=P.heldIntS_l1 l [] k h0 h
  simp only[List.nil_append,List.length_nil]at this
  rw[this]
  rfl
theorem P.heldPathBindS_A :∀m:Nat,(∀(r D:List PathBind) (k:Int),SizeOf.sizeOf r<m→0≤k→k+(PathBind.cntL r:Int)≤9223372036854775807→F.f63 (D++(PathBind.mkL r k).1) k D.length=some (.go (PathBind.mkL r k).2)):=by
  intro m
  induction m with
  |zero=>exact fun r D k h=>absurd h (Nat.not_lt_zero _)
  |succ m ih=>
    intro r D k hm h0 h
    induction r generalizing D k with
    |nil=>rw[F.f63,if_neg (by simp[PathBind.mkL])];simp[PathBind.mkL]
    |cons x r ihr=>
      have hr:SizeOf.sizeOf r<m+1:=by simp at hm;omega
      simp only[PathBind.cntL]at h
      have hE:(PathBind.mkE x k).2=k+(PathBind.cnt x:Int):=by
        have h2:=PathBind.mkL_snd [x] k h0 (by simp only[PathBind.cntL];omega)
        simpa[PathBind.mkL,PathBind.cntL]using h2
      obtain⟨A,hA⟩:∃A,A=(D++[(PathBind.mkE x k).1])++(PathBind.mkL r (PathBind.mkE x k).2).1:=⟨_,rfl⟩
      have h1:D++(PathBind.mkL (x::r) k).1=A:=by rw[hA];simp[PathBind.mkL]
      have hlt:D.length<A.length:=by rw[hA];simp
      have hget:A[D.length]? =some (PathBind.mkE x k).1:=by rw[hA];simp
      have ihr2:=ihr (D++[(PathBind.mkE x k).1]) (PathBind.mkE x k).2 hr (by rw[hE];omega) (by rw[hE];omega)
      rw[←hA]at ihr2
      simp only[List.length_append,List.length_cons,List.length_nil,Nat.zero_add]at ihr2
      have e2:(PathBind.mkL (x::r) k).2=(PathBind.mkL r (PathBind.mkE x k).2).2:=by rw[PathBind.mkL]
      rw[e2,h1,F.f63,if_pos hlt,hget]
      simp only[Option.bind_eq_bind,Option.bind_some]
      generalize hk2:(PathBind.mkE x k).2=k2 at ihr2 hE ⊢
      clear hA h1 hget e2 ihr
      obtain⟨var,path⟩:=x
      simp only[PathBind.cnt]at h hE
      simp only[PathBind.mkE]at hk2 ⊢
      have w1:IntKind.i64.wrap (k+1)=k+1:=wrap_in (by omega) (by omega)
      rw[if_pos (by first|rfl|trivial)]
      have rw2:IntKind.i64.wrap (k+1)=k+1:=by simp only[w1]
      have qw2:F.f62 (mkI path (IntKind.i64.wrap (k+1))).1 (IntKind.i64.wrap (k+1))=some (mkI path (IntKind.i64.wrap (k+1))).2:=P.heldIntS _ _ (by rw[rw2];omega) (by rw[rw2];omega)
      have w2:(mkI path (k+1)).2=k+1+(cntI path:Int):=mkI_snd _ _ (by omega) (by omega)
      rw[qw2]
      simp only[Option.bind_some]
      rw[if_neg (by rw[rw2,w2];omega)]
      rw[hk2]
      exact ihr2
theorem P.heldPathBindS_l1 (r D:List PathBind)(k:Int)(h0:0≤k)(h:k+(PathBind.cntL r:Int)≤9223372036854775807):F.f63 (D++(PathBind.mkL r k).1) k D.length=some (.go (PathBind.mkL r k).2):=(P.heldPathBindS_A (SizeOf.sizeOf r+1)) r D k (Nat.lt_succ_self _) h0 h
theorem P.heldPathBindS (l:List PathBind)(k:Int)(h0:0≤k)(h:k+(PathBind.cntL l:Int)≤9223372036854775807):F.f64 (PathBind.mkL l k).1 k=some (PathBind.mkL l k).2:=by
  unfold F.f64
  have:=P.heldPathBindS_l1 l [] k h0 h
  simp only[List.nil_append,List.length_nil]at this
  rw[this]
  rfl
theorem P.heldTreeS_A : ∀ m : Nat, (∀ (r D : List Tree) (k : Int), SizeOf.sizeOf r < m → 0 ≤ k → k + (Tree.cntL r : Int) ≤ 9223372036854775807 → F.f68 (D ++ (Tree.mkL r k).1) k D.length = some (.go (Tree.mkL r k).2)) ∧
    (∀(r D:List (BranchOf Tree)) (k:Int),SizeOf.sizeOf r<m→0≤k→k+(Branch.cntL r:Int)≤9223372036854775807→F.f67 (D++(Branch.mkL r k).1) k D.length=some (.go (Branch.mkL r k).2)):=by
  intro m
  induction m with
  |zero=>exact⟨fun r D k h=>absurd h (Nat.not_lt_zero _),fun r D k h=>absurd h (Nat.not_lt_zero _)⟩
  |succ m ih=>
    refine⟨?_,?_⟩
    · intro r D k hm h0 h
      induction r generalizing D k with
      |nil=>rw[F.f68,if_neg (by simp[Tree.mkL])];simp[Tree.mkL]
      |cons x r ihr=>
        have hr:SizeOf.sizeOf r<m+1:=by simp at hm;omega
        simp only[Tree.cntL]at h
        have hE:(Tree.mkE x k).2=k+(Tree.cnt x:Int):=by
          have h2:=Tree.mkL_snd [x] k h0 (by simp only[Tree.cntL];omega)
          simpa[Tree.mkL,Tree.cntL]using h2
        obtain⟨A,hA⟩:∃A,A=(D++[(Tree.mkE x k).1])++(Tree.mkL r (Tree.mkE x k).2).1:=⟨_,rfl⟩
        have h1:D++(Tree.mkL (x::r) k).1=A:=by rw[hA];simp[Tree.mkL]
        have hlt:D.length<A.length:=by rw[hA];simp
        have hget:A[D.length]? =some (Tree.mkE x k).1:=by rw[hA];simp
        have ihr2:=ihr (D++[(Tree.mkE x k).1]) (Tree.mkE x k).2 hr (by rw[hE];omega) (by rw[hE];omega)
        rw[←hA]at ihr2
        simp only[List.length_append,List.length_cons,List.length_nil,Nat.zero_add]at ihr2
        have e2:(Tree.mkL (x::r) k).2=(Tree.mkL r (Tree.mkE x k).2).2:=by rw[Tree.mkL]
        rw[e2,h1,F.f68,if_pos hlt,hget]
        simp only[Option.bind_eq_bind,Option.bind_some]
        generalize hk2:(Tree.mkE x k).2=k2 at ihr2 hE ⊢
        clear hA h1 hget e2 ihr
        obtain⟨op,clause,binds,path,branches,els⟩:=x
        simp only[Tree.cnt]at h hE
        simp only[Tree.mkE]at hk2 ⊢
        have w1:IntKind.i64.wrap (k+1)=k+1:=wrap_in (by omega) (by omega)
        rw[if_pos (by first|rfl|trivial)]
        have w2:IntKind.i64.wrap (k+1+1)=k+1+1:=wrap_in (by omega) (by omega)
        rw[if_pos (by first|rfl|trivial)]
        have rw3:IntKind.i64.wrap ((IntKind.i64.wrap (k+1))+1)=k+1+1:=by simp only[w1,w2]
        have qw3:F.f64 (PathBind.mkL binds (IntKind.i64.wrap ((IntKind.i64.wrap (k+1))+1))).1 (IntKind.i64.wrap ((IntKind.i64.wrap (k+1))+1))=some (PathBind.mkL binds (IntKind.i64.wrap ((IntKind.i64.wrap (k+1))+1))).2:=P.heldPathBindS _ _ (by rw[rw3];omega) (by rw[rw3];omega)
        have w3:(PathBind.mkL binds (k+1+1)).2=k+1+1+(PathBind.cntL binds:Int):=PathBind.mkL_snd _ _ (by omega) (by omega)
        rw[qw3]
        simp only[Option.bind_some]
        rw[if_neg (by rw[rw3,w3];omega)]
        have rw4:(PathBind.mkL binds (IntKind.i64.wrap ((IntKind.i64.wrap (k+1))+1))).2=k+1+1+(PathBind.cntL binds:Int):=by simp only[w1,w2,w3]
        have qw4:F.f62 (mkI path ((PathBind.mkL binds (IntKind.i64.wrap ((IntKind.i64.wrap (k+1))+1))).2)).1 ((PathBind.mkL binds (IntKind.i64.wrap ((IntKind.i64.wrap (k+1))+1))).2)=some (mkI path ((PathBind.mkL binds (IntKind.i64.wrap ((IntKind.i64.wrap (k+1))+1))).2)).2:=P.heldIntS _ _ (by rw[rw4];omega) (by rw[rw4];omega)
        have w4:(mkI path (k+1+1+(PathBind.cntL binds:Int))).2=k+1+1+(PathBind.cntL binds:Int)+(cntI path:Int):=mkI_snd _ _ (by omega) (by omega)
        rw[qw4]
        simp only[Option.bind_some]
        rw[if_neg (by rw[rw4,w4];omega)]
        have rw5:(mkI path ((PathBind.mkL binds (IntKind.i64.wrap ((IntKind.i64.wrap (k+1))+1))).2)).2=k+1+1+(PathBind.cntL binds:Int)+(cntI path:Int):=by simp only[w1,w2,w3,w4]
        have qw5:F.f65 (Branch.mkL branches ((mkI path ((PathBind.mkL binds (IntKind.i64.wrap ((IntKind.i64.wrap (k+1))+1))).2)).2)).1 ((mkI path ((PathBind.mkL binds (IntKind.i64.wrap ((IntKind.i64.wrap (k+1))+1))).2)).2)=some (Branch.mkL branches ((mkI path ((PathBind.mkL binds (IntKind.i64.wrap ((IntKind.i64.wrap (k+1))+1))).2)).2)).2:=by
          have h3:=ih.2 branches [] ((mkI path ((PathBind.mkL binds (IntKind.i64.wrap ((IntKind.i64.wrap (k+1))+1))).2)).2) (by simp at hm;omega) (by rw[rw5];omega) (by rw[rw5];omega)
          simp only[List.nil_append,List.length_nil]at h3
          rw[F.f65,h3];rfl
        have w5:(Branch.mkL branches (k+1+1+(PathBind.cntL binds:Int)+(cntI path:Int))).2=k+1+1+(PathBind.cntL binds:Int)+(cntI path:Int)+(Branch.cntL branches:Int):=Branch.mkL_snd _ _ (by omega) (by omega)
        rw[qw5]
        simp only[Option.bind_some]
        rw[if_neg (by rw[rw5,w5];omega)]
        have rw6:(Branch.mkL branches ((mkI path ((PathBind.mkL binds (IntKind.i64.wrap ((IntKind.i64.wrap (k+1))+1))).2)).2)).2=k+1+1+(PathBind.cntL binds:Int)+(cntI path:Int)+(Branch.cntL branches:Int):=by simp only[w1,w2,w3,w4,w5]
        have qw6:F.f66 (Tree.mkL els ((Branch.mkL branches ((mkI path ((PathBind.mkL binds (IntKind.i64.wrap ((IntKind.i64.wrap (k+1))+1))).2)).2)).2)).1 ((Branch.mkL branches ((mkI path ((PathBind.mkL binds (IntKind.i64.wrap ((IntKind.i64.wrap (k+1))+1))).2)).2)).2)=some (Tree.mkL els ((Branch.mkL branches ((mkI path ((PathBind.mkL binds (IntKind.i64.wrap ((IntKind.i64.wrap (k+1))+1))).2)).2)).2)).2:=by
          have h3:=ih.1 els [] ((Branch.mkL branches ((mkI path ((PathBind.mkL binds (IntKind.i64.wrap ((IntKind.i64.wrap (k+1))+1))).2)).2)).2) (by simp at hm;omega) (by rw[rw6];omega) (by rw[rw6];omega)
          simp only[List.nil_append,List.length_nil]at h3
          rw[F.f66,h3];rfl
        have w6:(Tree.mkL els (k+1+1+(PathBind.cntL binds:Int)+(cntI path:Int)+(Branch.cntL branches:Int))).2=k+1+1+(PathBind.cntL binds:Int)+(cntI path:Int)+(Branch.cntL branches:Int)+(Tree.cntL els:Int):=Tree.mkL_snd _ _ (by omega) (by omega)
        rw[qw6]
        simp only[Option.bind_some]
        rw[if_neg (by rw[rw6,w6];omega)]
        rw[hk2]
        exact ihr2
    · intro r D k hm h0 h
      induction r generalizing D k with
      |nil=>rw[F.f67,if_neg (by simp[Branch.mkL])];simp[Branch.mkL]
      |cons x r ihr=>
        have hr:SizeOf.sizeOf r<m+1:=by simp at hm;omega
        simp only[Branch.cntL]at h
        have hE:(Branch.mkE x k).2=k+(Branch.cnt x:Int):=by
          have h2:=Branch.mkL_snd [x] k h0 (by simp only[Branch.cntL];omega)
          simpa[Branch.mkL,Branch.cntL]using h2
        obtain⟨A,hA⟩:∃A,A=(D++[(Branch.mkE x k).1])++(Branch.mkL r (Branch.mkE x k).2).1:=⟨_,rfl⟩
        have h1:D++(Branch.mkL (x::r) k).1=A:=by rw[hA];simp[Branch.mkL]
        have hlt:D.length<A.length:=by rw[hA];simp
        have hget:A[D.length]? =some (Branch.mkE x k).1:=by rw[hA];simp
        have ihr2:=ihr (D++[(Branch.mkE x k).1]) (Branch.mkE x k).2 hr (by rw[hE];omega) (by rw[hE];omega)
        rw[←hA]at ihr2
        simp only[List.length_append,List.length_cons,List.length_nil,Nat.zero_add]at ihr2
        have e2:(Branch.mkL (x::r) k).2=(Branch.mkL r (Branch.mkE x k).2).2:=by rw[Branch.mkL]
        rw[e2,h1,F.f67,if_pos hlt,hget]
        simp only[Option.bind_eq_bind,Option.bind_some]
        generalize hk2:(Branch.mkE x k).2=k2 at ihr2 hE ⊢
        clear hA h1 hget e2 ihr
        obtain⟨ctor,n,m,⟨tree_op,tree_clause,tree_binds,tree_path,tree_branches,tree_els⟩⟩:=x
        simp only[Branch.cnt,Tree.cnt]at h hE
        simp only[Branch.mkE,Tree.mkE]at hk2 ⊢
        have w1:IntKind.i64.wrap (k+1)=k+1:=wrap_in (by omega) (by omega)
        rw[if_pos (by first|rfl|trivial)]
        have w2:IntKind.i64.wrap (k+1+1)=k+1+1:=wrap_in (by omega) (by omega)
        rw[if_pos (by first|rfl|trivial)]
        have w3:IntKind.i64.wrap (k+1+1+1)=k+1+1+1:=wrap_in (by omega) (by omega)
        rw[if_pos (by first|rfl|trivial)]
        have w4:IntKind.i64.wrap (k+1+1+1+1)=k+1+1+1+1:=wrap_in (by omega) (by omega)
        rw[if_pos (by first|rfl|trivial)]
        have w5:IntKind.i64.wrap (k+1+1+1+1+1)=k+1+1+1+1+1:=wrap_in (by omega) (by omega)
        rw[if_pos (by first|rfl|trivial)]
        have rw6:IntKind.i64.wrap ((IntKind.i64.wrap ((IntKind.i64.wrap ((IntKind.i64.wrap ((IntKind.i64.wrap (k+1))+1))+1))+1))+1)=k+1+1+1+1+1:=by simp only[w1,w2,w3,w4,w5]
        have qw6:F.f64 (PathBind.mkL tree_binds (IntKind.i64.wrap ((IntKind.i64.wrap ((IntKind.i64.wrap ((IntKind.i64.wrap ((IntKind.i64.wrap (k+1))+1))+1))+1))+1))).1 (IntKind.i64.wrap ((IntKind.i64.wrap ((IntKind.i64.wrap ((IntKind.i64.wrap ((IntKind.i64.wrap (k+1))+1))+1))+1))+1))=some (PathBind.mkL tree_binds (IntKind.i64.wrap ((IntKind.i64.wrap ((IntKind.i64.wrap ((IntKind.i64.wrap ((IntKind.i64.wrap (k+1))+1))+1))+1))+1))).2:=P.heldPathBindS _ _ (by rw[rw6];omega) (by rw[rw6];omega)
        have w6:(PathBind.mkL tree_binds (k+1+1+1+1+1)).2=k+1+1+1+1+1+(PathBind.cntL tree_binds:Int):=PathBind.mkL_snd _ _ (by omega) (by omega)
        rw[qw6]
        simp only[Option.bind_some]
        rw[if_neg (by rw[rw6,w6];omega)]
        have rw7:(PathBind.mkL tree_binds (IntKind.i64.wrap ((IntKind.i64.wrap ((IntKind.i64.wrap ((IntKind.i64.wrap ((IntKind.i64.wrap (k+1))+1))+1))+1))+1))).2=k+1+1+1+1+1+(PathBind.cntL tree_binds:Int):=by simp only[w1,w2,w3,w4,w5,w6]
        have qw7:F.f62 (mkI tree_path ((PathBind.mkL tree_binds (IntKind.i64.wrap ((IntKind.i64.wrap ((IntKind.i64.wrap ((IntKind.i64.wrap ((IntKind.i64.wrap (k+1))+1))+1))+1))+1))).2)).1 ((PathBind.mkL tree_binds (IntKind.i64.wrap ((IntKind.i64.wrap ((IntKind.i64.wrap ((IntKind.i64.wrap ((IntKind.i64.wrap (k+1))+1))+1))+1))+1))).2)=some (mkI tree_path ((PathBind.mkL tree_binds (IntKind.i64.wrap ((IntKind.i64.wrap ((IntKind.i64.wrap ((IntKind.i64.wrap ((IntKind.i64.wrap (k+1))+1))+1))+1))+1))).2)).2:=P.heldIntS _ _ (by rw[rw7];omega) (by rw[rw7];omega)
        have w7:(mkI tree_path (k+1+1+1+1+1+(PathBind.cntL tree_binds:Int))).2=k+1+1+1+1+1+(PathBind.cntL tree_binds:Int)+(cntI tree_path:Int):=mkI_snd _ _ (by omega) (by omega)
        rw[qw7]
        simp only[Option.bind_some]
        rw[if_neg (by rw[rw7,w7];omega)]
        have rw8:(mkI tree_path ((PathBind.mkL tree_binds (IntKind.i64.wrap ((IntKind.i64.wrap ((IntKind.i64.wrap ((IntKind.i64.wrap ((IntKind.i64.wrap (k+1))+1))+1))+1))+1))).2)).2=k+1+1+1+1+1+(PathBind.cntL tree_binds:Int)+(cntI tree_path:Int):=by simp only[w1,w2,w3,w4,w5,w6,w7]
        have qw8:F.f65 (Branch.mkL tree_branches ((mkI tree_path ((PathBind.mkL tree_binds (IntKind.i64.wrap ((IntKind.i64.wrap ((IntKind.i64.wrap ((IntKind.i64.wrap ((IntKind.i64.wrap (k+1))+1))+1))+1))+1))).2)).2)).1 ((mkI tree_path ((PathBind.mkL tree_binds (IntKind.i64.wrap ((IntKind.i64.wrap ((IntKind.i64.wrap ((IntKind.i64.wrap ((IntKind.i64.wrap (k+1))+1))+1))+1))+1))).2)).2)=some (Branch.mkL tree_branches ((mkI tree_path ((PathBind.mkL tree_binds (IntKind.i64.wrap ((IntKind.i64.wrap ((IntKind.i64.wrap ((IntKind.i64.wrap ((IntKind.i64.wrap (k+1))+1))+1))+1))+1))).2)).2)).2:=by
          have h3:=ih.2 tree_branches [] ((mkI tree_path ((PathBind.mkL tree_binds (IntKind.i64.wrap ((IntKind.i64.wrap ((IntKind.i64.wrap ((IntKind.i64.wrap ((IntKind.i64.wrap (k+1))+1))+1))+1))+1))).2)).2) (by simp at hm;omega) (by rw[rw8];omega) (by rw[rw8];omega)
          simp only[List.nil_append,List.length_nil]at h3
          rw[F.f65,h3];rfl
        have w8:(Branch.mkL tree_branches (k+1+1+1+1+1+(PathBind.cntL tree_binds:Int)+(cntI tree_path:Int))).2=k+1+1+1+1+1+(PathBind.cntL tree_binds:Int)+(cntI tree_path:Int)+(Branch.cntL tree_branches:Int):=Branch.mkL_snd _ _ (by omega) (by omega)
        rw[qw8]
        simp only[Option.bind_some]
        rw[if_neg (by rw[rw8,w8];omega)]
        have rw9:(Branch.mkL tree_branches ((mkI tree_path ((PathBind.mkL tree_binds (IntKind.i64.wrap ((IntKind.i64.wrap ((IntKind.i64.wrap ((IntKind.i64.wrap ((IntKind.i64.wrap (k+1))+1))+1))+1))+1))).2)).2)).2=k+1+1+1+1+1+(PathBind.cntL tree_binds:Int)+(cntI tree_path:Int)+(Branch.cntL tree_branches:Int):=by simp only[w1,w2,w3,w4,w5,w6,w7,w8]
        have qw9:F.f66 (Tree.mkL tree_els ((Branch.mkL tree_branches ((mkI tree_path ((PathBind.mkL tree_binds (IntKind.i64.wrap ((IntKind.i64.wrap ((IntKind.i64.wrap ((IntKind.i64.wrap ((IntKind.i64.wrap (k+1))+1))+1))+1))+1))).2)).2)).2)).1 ((Branch.mkL tree_branches ((mkI tree_path ((PathBind.mkL tree_binds (IntKind.i64.wrap ((IntKind.i64.wrap ((IntKind.i64.wrap ((IntKind.i64.wrap ((IntKind.i64.wrap (k+1))+1))+1))+1))+1))).2)).2)).2)=some (Tree.mkL tree_els ((Branch.mkL tree_branches ((mkI tree_path ((PathBind.mkL tree_binds (IntKind.i64.wrap ((IntKind.i64.wrap ((IntKind.i64.wrap ((IntKind.i64.wrap ((IntKind.i64.wrap (k+1))+1))+1))+1))+1))).2)).2)).2)).2:=by
          have h3:=ih.1 tree_els [] ((Branch.mkL tree_branches ((mkI tree_path ((PathBind.mkL tree_binds (IntKind.i64.wrap ((IntKind.i64.wrap ((IntKind.i64.wrap ((IntKind.i64.wrap ((IntKind.i64.wrap (k+1))+1))+1))+1))+1))).2)).2)).2) (by simp at hm;omega) (by rw[rw9];omega) (by rw[rw9];omega)
          simp only[List.nil_append,List.length_nil]at h3
          rw[F.f66,h3];rfl
        have w9:(Tree.mkL tree_els (k+1+1+1+1+1+(PathBind.cntL tree_binds:Int)+(cntI tree_path:Int)+(Branch.cntL tree_branches:Int))).2=k+1+1+1+1+1+(PathBind.cntL tree_binds:Int)+(cntI tree_path:Int)+(Branch.cntL tree_branches:Int)+(Tree.cntL tree_els:Int):=Tree.mkL_snd _ _ (by omega) (by omega)
        rw[qw9]
        simp only[Option.bind_some]
        rw[if_neg (by rw[rw9,w9];omega)]
        rw[hk2]
        exact ihr2
theorem P.heldTreeS_l1 (r D:List Tree)(k:Int)(h0:0≤k)(h:k+(Tree.cntL r:Int)≤9223372036854775807):F.f68 (D++(Tree.mkL r k).1) k D.length=some (.go (Tree.mkL r k).2):=(P.heldTreeS_A (SizeOf.sizeOf r+1)).1 r D k (Nat.lt_succ_self _) h0 h
theorem P.heldTreeS (l:List Tree)(k:Int)(h0:0≤k)(h:k+(Tree.cntL l:Int)≤9223372036854775807):F.f66 (Tree.mkL l k).1 k=some (Tree.mkL l k).2:=by
  unfold F.f66
  have:=P.heldTreeS_l1 l [] k h0 h
  simp only[List.nil_append,List.length_nil]at this
  rw[this]
  rfl
theorem P.heldBranchS_l1 (r D:List (BranchOf Tree))(k:Int)(h0:0≤k)(h:k+(Branch.cntL r:Int)≤9223372036854775807):F.f67 (D++(Branch.mkL r k).1) k D.length=some (.go (Branch.mkL r k).2):=(P.heldTreeS_A (SizeOf.sizeOf r+1)).2 r D k (Nat.lt_succ_self _) h0 h
theorem P.heldBranchS (l:List (BranchOf Tree))(k:Int)(h0:0≤k)(h:k+(Branch.cntL l:Int)≤9223372036854775807):F.f65 (Branch.mkL l k).1 k=some (Branch.mkL l k).2:=by
  unfold F.f65
  have:=P.heldBranchS_l1 l [] k h0 h
  simp only[List.nil_append,List.length_nil]at this
  rw[this]
  rfl
end Go.Vl
