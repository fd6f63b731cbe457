/- The plain lemmas of the counting, copying and comparing functions (printed by gen_p.py). -/
import Derived.Test.YtbibfeagkocjlaaExactShareTreeF
import Derived.Test.YtbibfeagkocjlaaVlQ
set_option linter.all false
namespace Go.Vl
open Go Go.RowKit
theorem P.YAD (a:List Int)(ho:a.length≤maxLen)(l:Int)(h0:0≤l)(h1:l≤1048576):F.f0 a l=some (rem l (wtL (fun _=>0) a)):=by
  have hm:(a.length:Int)≤9223372036854775807:=by have:a.length≤9223372036854775807:=ho;omega
  have hw:wtL (fun _=>0) a=a.length:=ZJN (fun _=>rfl) a
  unfold F.f0
  rw[ZB (n:=l-a.length) (by omega) (by omega),hw]
  by_cases h:l-a.length<0
  · rw[if_pos h];simp only[rem];split
    · omega
    · rfl
  · rw[if_neg h,ZBe _ h]
theorem P.Yt (x:PathBind)(ho:x.Ok)(l:Int)(h0:0≤l)(h1:l≤1048576):F.f1 x l=some (rem l x.wt):=by
  unfold F.f1
  rw[P.YAD x.path ho.path.1 _ h0 h1]
  simp only[Option.bind_eq_bind,Option.bind_some]
  by_cases h1n:rem l (wtL (fun _=>0) x.path)<0
  · rw[if_pos h1n];congr 1;unfold PathBind.wt;simp only[rem]at h1n ⊢;split at h1n<;>split<;>omega
  rw[if_neg h1n]
  rfl
theorem P.YU (a:List PathBind)(ho:a.length≤maxLen)(hf:∀x,x∈a→∀l:Int,0≤l→l≤1048576→F.f1 x l=some (rem l (PathBind.wt x)))(l:Int)(h0:0≤l)(h1:l≤1048576):F.f3 a l=some (rem l (wtL PathBind.wt a)):=by
  have hm:(a.length:Int)≤9223372036854775807:=by have:a.length≤9223372036854775807:=ho;omega
  unfold F.f3
  rw[ZB (n:=l-a.length) (by omega) (by omega),ZCW]
  by_cases h:l-a.length<0
  · rw[if_pos h];simp only[rem];split
    · omega
    · rfl
  · have h2:¬rem l a.length<0:=by rw[←ZBe _ h];exact h
    rw[if_neg h,ZBe _ h,ZH4 (L:=F.f2 a) (fun l i=>by rw[F.f2]) hf _ 0 _ rfl (by omega) (Int.le_trans (ZCp _ h0) h1),ZBf _ _ h2]
    simp only[List.drop_zero,Option.bind_eq_bind,Option.bind_some]
    split
    · next h3=>
      split at h3
      · next h4=>cases h3;congr 1;simp only[rem]at h4 ⊢;split at h4<;>split<;>omega
      · cases h3
    · next h3=>
      split at h3
      · cases h3
      · cases h3;rfl
theorem P.Yk (a:List PathBind)(ho:okL PathBind.Ok a)(l:Int)(h0:0≤l)(h1:l≤1048576):F.f3 a l=some (rem l (wtL PathBind.wt a)):=
  P.YU a ho.1 (fun x hx=>P.Yt x (ho.2 x hx)) l h0 h1
theorem P.YH (a:List Branch)(ho:a.length≤maxLen)(hf:∀x,x∈a→∀l:Int,0≤l→l≤1048576→F.f4 x l=some (rem l (Branch.wt x)))(l:Int)(h0:0≤l)(h1:l≤1048576):F.f5 a l=some (rem l (wtL Branch.wt a)):=by
  have hm:(a.length:Int)≤9223372036854775807:=by have:a.length≤9223372036854775807:=ho;omega
  unfold F.f5
  rw[ZB (n:=l-a.length) (by omega) (by omega),ZCW]
  by_cases h:l-a.length<0
  · rw[if_pos h];simp only[rem];split
    · omega
    · rfl
  · have h2:¬rem l a.length<0:=by rw[←ZBe _ h];exact h
    rw[if_neg h,ZBe _ h,ZH4 (L:=F.f8 a) (fun l i=>by rw[F.f8]) hf _ 0 _ rfl (by omega) (Int.le_trans (ZCp _ h0) h1),ZBf _ _ h2]
    simp only[List.drop_zero,Option.bind_eq_bind,Option.bind_some]
    split
    · next h3=>
      split at h3
      · next h4=>cases h3;congr 1;simp only[rem]at h4 ⊢;split at h4<;>split<;>omega
      · cases h3
    · next h3=>
      split at h3
      · cases h3
      · cases h3;rfl
theorem P.YT (a:List Tree)(ho:a.length≤maxLen)(hf:∀x,x∈a→∀l:Int,0≤l→l≤1048576→F.f6 x l=some (rem l (Tree.wt x)))(l:Int)(h0:0≤l)(h1:l≤1048576):F.f7 a l=some (rem l (wtL Tree.wt a)):=by
  have hm:(a.length:Int)≤9223372036854775807:=by have:a.length≤9223372036854775807:=ho;omega
  unfold F.f7
  rw[ZB (n:=l-a.length) (by omega) (by omega),ZCW]
  by_cases h:l-a.length<0
  · rw[if_pos h];simp only[rem];split
    · omega
    · rfl
  · have h2:¬rem l a.length<0:=by rw[←ZBe _ h];exact h
    rw[if_neg h,ZBe _ h,ZH4 (L:=F.f9 a) (fun l i=>by rw[F.f9]) hf _ 0 _ rfl (by omega) (Int.le_trans (ZCp _ h0) h1),ZBf _ _ h2]
    simp only[List.drop_zero,Option.bind_eq_bind,Option.bind_some]
    split
    · next h3=>
      split at h3
      · next h4=>cases h3;congr 1;simp only[rem]at h4 ⊢;split at h4<;>split<;>omega
      · cases h3
    · next h3=>
      split at h3
      · cases h3
      · cases h3;rfl
theorem P.Ys (x:Tree)(ho:x.Ok)(l:Int)(h0:0≤l)(h1:l≤1048576):F.f6 x l=some (rem l x.wt):=by
  induction x using Tree.ind generalizing l with
  |_ x ihb ihe=>
  unfold F.f6
  rw[P.Yk x.binds ho.binds _ h0 h1]
  simp only[Option.bind_eq_bind,Option.bind_some]
  by_cases h1n:rem l (wtL PathBind.wt x.binds)<0
  · rw[if_pos h1n];congr 1;rw[Tree.wt_eq];simp only[rem]at h1n ⊢;split at h1n<;>split<;>omega
  rw[if_neg h1n]
  rw[P.YAD x.path ho.path.1 _ (by omega) (Int.le_trans (ZCp _ h0) h1)]
  simp only[Option.bind_eq_bind,Option.bind_some]
  rw[ZBf _ _ h1n]
  by_cases h2n:rem l (wtL PathBind.wt x.binds+wtL (fun _=>0) x.path)<0
  · rw[if_pos h2n];congr 1;rw[Tree.wt_eq];simp only[rem]at h2n ⊢;split at h2n<;>split<;>omega
  rw[if_neg h2n]
  rw[P.YH x.branches ho.branches.1 (fun b hb l h0 h1=>by unfold F.f4;rw[ihb b hb (ho.branches.2 b hb).tree l h0 h1];simp only[Option.bind_eq_bind,Option.bind_some,ZMS,ZIB];rfl) _ (by omega) (Int.le_trans (ZCp _ h0) h1)]
  simp only[Option.bind_eq_bind,Option.bind_some]
  rw[ZBf _ _ h2n]
  by_cases h3n:rem l (wtL PathBind.wt x.binds+wtL (fun _=>0) x.path+wtL Branch.wt x.branches)<0
  · rw[if_pos h3n];congr 1;rw[Tree.wt_eq];simp only[rem]at h3n ⊢;split at h3n<;>split<;>omega
  rw[if_neg h3n]
  rw[P.YT x.els ho.els.1 (fun k hk l h0 h1=>ihe k hk (ho.els.2 k hk) l h0 h1) _ (by omega) (Int.le_trans (ZCp _ h0) h1)]
  simp only[Option.bind_eq_bind,Option.bind_some]
  rw[ZBf _ _ h3n]
  by_cases h4n:rem l (wtL PathBind.wt x.binds+wtL (fun _=>0) x.path+wtL Branch.wt x.branches+wtL Tree.wt x.els)<0
  · rw[if_pos h4n];congr 1;rw[Tree.wt_eq];simp only[rem]at h4n ⊢;split at h4n<;>split<;>omega
  rw[if_neg h4n]
  rw[Tree.wt_eq]
theorem P.YAK (a:List Branch)(ho:okL Branch.Ok a)(l:Int)(h0:0≤l)(h1:l≤1048576):F.f5 a l=some (rem l (wtL Branch.wt a)):=
  P.YH a ho.1 (fun b hb l h0 h1=>by unfold F.f4;rw[P.Ys b.tree (ho.2 b hb).tree l h0 h1];simp only[Option.bind_eq_bind,Option.bind_some,ZMS,ZIB];rfl) l h0 h1
theorem P.YAN (a:List Tree)(ho:okL Tree.Ok a)(l:Int)(h0:0≤l)(h1:l≤1048576):F.f7 a l=some (rem l (wtL Tree.wt a)):=
  P.YT a ho.1 (fun x hx=>P.Ys x (ho.2 x hx)) l h0 h1
theorem P.YAC (a:List Int)(hl:a.length≤67108864):F.f11 a=some a:=by
  unfold F.f11
  rw[if_pos hl,ZKp (a:=a) (L:=F.f10 a) (fun out i=>by rw[F.f10]) _ 0 (List.replicate a.length 0) rfl (by simp) rfl]
  rfl
theorem P.Yr (x:PathBind)(hw:x.wt≤67108864):F.f12 x=some x:=by
  unfold F.f12
  have hw2:=hw;unfold PathBind.wt at hw2
  rw[P.YAC x.path (by have:=Zv (fun _:Int=>0) x.path;omega)]
  simp only[Option.bind_eq_bind,Option.bind_some]
  all_goals(cases x;rfl)
theorem P.YS (a:List PathBind)(hl:a.length≤67108864)(hf:∀x,x∈a→F.f12 x=some x):F.f14 a=some a:=by
  unfold F.f14
  rw[if_pos hl,ZGa (a:=a) (L:=F.f13 a) (fun out i=>by rw[F.f13]) hf _ 0 (List.replicate a.length PathBind.z) rfl (by simp) rfl]
  rfl
theorem P.Yj (a:List PathBind)(hw:wtL PathBind.wt a≤67108864):F.f14 a=some a:=
  P.YS a (by have:=Zv PathBind.wt a;omega) (fun x hx=>P.Yr x (by have:=Zu PathBind.wt hx;omega))
theorem P.YG (a:List Branch)(hl:a.length≤67108864)(hf:∀x,x∈a→F.f15 x=some x):F.f16 a=some a:=by
  unfold F.f16
  rw[if_pos hl,ZGa (a:=a) (L:=F.f19 a) (fun out i=>by rw[F.f19]) hf _ 0 (List.replicate a.length Branch.z) rfl (by simp) rfl]
  rfl
theorem P.YR (a:List Tree)(hl:a.length≤67108864)(hf:∀x,x∈a→F.f17 x=some x):F.f18 a=some a:=by
  unfold F.f18
  rw[if_pos hl,ZGa (a:=a) (L:=F.f20 a) (fun out i=>by rw[F.f20]) hf _ 0 (List.replicate a.length Tree.z) rfl (by simp) rfl]
  rfl
theorem P.Yq (x:Tree)(hw:x.wt≤67108864):F.f17 x=some x:=by
  induction x using Tree.ind with
  |_ x ihb ihe=>
  unfold F.f17
  have hw2:=hw;rw[Tree.wt_eq]at hw2
  rw[P.Yj x.binds (by omega)]
  simp only[Option.bind_eq_bind,Option.bind_some]
  rw[P.YAC x.path (by have:=Zv (fun _:Int=>0) x.path;omega)]
  simp only[Option.bind_eq_bind,Option.bind_some]
  rw[P.YG x.branches (by have:=Zv Branch.wt x.branches;omega) (fun b hb=>by unfold F.f15;rw[ihb b hb (by have:=Zu Branch.wt hb;have:Branch.wt b=b.tree.wt:=rfl;omega)];rfl)]
  simp only[Option.bind_eq_bind,Option.bind_some]
  rw[P.YR x.els (by have:=Zv Tree.wt x.els;omega) (fun k hk=>ihe k hk (by have:=Zu Tree.wt hk;omega))]
  simp only[Option.bind_eq_bind,Option.bind_some]
  all_goals(cases x;rfl)
theorem P.YAJ (a:List Branch)(hw:wtL Branch.wt a≤67108864):F.f16 a=some a:=
  P.YG a (by have:=Zv Branch.wt a;omega) (fun b hb=>by unfold F.f15;rw[P.Yq b.tree (by have:=Zu Branch.wt hb;have:Branch.wt b=b.tree.wt:=rfl;omega)];rfl)
theorem P.YAM (a:List Tree)(hw:wtL Tree.wt a≤67108864):F.f18 a=some a:=
  P.YR a (by have:=Zv Tree.wt a;omega) (fun x hx=>P.Yq x (by have:=Zu Tree.wt hx;omega))
theorem P.Yy (a:List Int)(b:List Int):F.f70 a b=some (dec (a=b)):=by
  unfold F.f70
  by_cases h:a.length=b.length
  · rw[if_pos h,ZLw (L:=F.f69 a b) (fun i=>by rw[F.f69]) h _ 0 rfl]
    by_cases e:a=b
    · simp[e,dec_of]
    · simp[e,ZE]
  · rw[if_neg h,ZE]
    intro e;rw[e]at h;exact h rfl
theorem P.Yw (x y:PathBind):F.f71 x y=some (dec (x=y)):=by
  unfold F.f71
  simp only[P.Yy,Option.bind_eq_bind,Option.bind_some,Zj]
  cases x;cases y
  simp only[PathBind.mk.injEq]
  repeat' split
  all_goals first|(rw[dec_of];simp_all[Zj,ZR];done)|(rw[ZE];simp_all[Zj,ZR];done)
theorem P.YX (a:List PathBind)(hf:∀x,x∈a→∀y,F.f71 x y=some (dec (x=y)))(b:List PathBind):F.f73 a b=some (dec (a=b)):=by
  unfold F.f73
  by_cases h:a.length=b.length
  · rw[if_pos h,ZDn (L:=F.f72 a b) (fun i=>by rw[F.f72]) hf h _ 0 rfl]
    by_cases e:a=b
    · simp[e,dec_of]
    · simp[e,ZE]
  · rw[if_neg h,ZE]
    intro e;rw[e]at h;exact h rfl
theorem P.YO (a b:List PathBind):F.f73 a b=some (dec (a=b)):=
  P.YX a (fun x _ y=>P.Yw x y) b
theorem P.YAI (x y:Edge):F.f74 x y=some (dec (x=y)):=by
  unfold F.f74
  cases x;cases y
  simp only[Edge.mk.injEq]
  repeat' split
  all_goals first|(rw[dec_of];simp_all[Zj,ZR];done)|(rw[ZE];simp_all[Zj,ZR];done)
theorem P.Yz (a:List Edge)(hf:∀x,x∈a→∀y,F.f74 x y=some (dec (x=y)))(b:List Edge):F.f76 a b=some (dec (a=b)):=by
  unfold F.f76
  by_cases h:a.length=b.length
  · rw[if_pos h,ZDn (L:=F.f75 a b) (fun i=>by rw[F.f75]) hf h _ 0 rfl]
    by_cases e:a=b
    · simp[e,dec_of]
    · simp[e,ZE]
  · rw[if_neg h,ZE]
    intro e;rw[e]at h;exact h rfl
theorem P.YAG (a b:List Edge):F.f76 a b=some (dec (a=b)):=
  P.Yz a (fun x _ y=>P.YAI x y) b
theorem P.YAH (x y:Node):F.f77 x y=some (dec (x=y)):=by
  unfold F.f77
  simp only[P.YO,P.Yy,P.YAG,Option.bind_eq_bind,Option.bind_some,Zj]
  cases x;cases y
  simp only[Node.mk.injEq]
  repeat' split
  all_goals first|(rw[dec_of];simp_all[Zj,ZR];done)|(rw[ZE];simp_all[Zj,ZR];done)
theorem P.Yx (a:List Node)(hf:∀x,x∈a→∀y,F.f77 x y=some (dec (x=y)))(b:List Node):F.f79 a b=some (dec (a=b)):=by
  unfold F.f79
  by_cases h:a.length=b.length
  · rw[if_pos h,ZDn (L:=F.f78 a b) (fun i=>by rw[F.f78]) hf h _ 0 rfl]
    by_cases e:a=b
    · simp[e,dec_of]
    · simp[e,ZE]
  · rw[if_neg h,ZE]
    intro e;rw[e]at h;exact h rfl
theorem P.YAF (a b:List Node):F.f79 a b=some (dec (a=b)):=
  P.Yx a (fun x _ y=>P.YAH x y) b
theorem P.YK (a:List Branch)(hf:∀x,x∈a→∀y,F.f80 x y=some (dec (x=y)))(b:List Branch):F.f81 a b=some (dec (a=b)):=by
  unfold F.f81
  by_cases h:a.length=b.length
  · rw[if_pos h,ZDn (L:=F.f84 a b) (fun i=>by rw[F.f84]) hf h _ 0 rfl]
    by_cases e:a=b
    · simp[e,dec_of]
    · simp[e,ZE]
  · rw[if_neg h,ZE]
    intro e;rw[e]at h;exact h rfl
theorem P.YW (a:List Tree)(hf:∀x,x∈a→∀y,F.f82 x y=some (dec (x=y)))(b:List Tree):F.f83 a b=some (dec (a=b)):=by
  unfold F.f83
  by_cases h:a.length=b.length
  · rw[if_pos h,ZDn (L:=F.f85 a b) (fun i=>by rw[F.f85]) hf h _ 0 rfl]
    by_cases e:a=b
    · simp[e,dec_of]
    · simp[e,ZE]
  · rw[if_neg h,ZE]
    intro e;rw[e]at h;exact h rfl
theorem P.YP (x:Branch)(h:∀y,F.f82 x.tree y=some (dec (x.tree=y)))(y:Branch):F.f80 x y=some (dec (x=y)):=by
  unfold F.f80
  simp only[h,Option.bind_eq_bind,Option.bind_some,Zj]
  cases x;cases y
  simp only[BranchOf.mk.injEq]
  repeat' split
  all_goals first|(rw[dec_of];simp_all[Zj,ZR];done)|(rw[ZE];simp_all[Zj,ZR];done)
theorem P.Yv (x y:Tree):F.f82 x y=some (dec (x=y)):=by
  induction x using Tree.ind generalizing y with
  |_ x ihb ihe=>
  unfold F.f82
  simp only[P.YO,P.Yy,P.YK x.branches (fun b hb c=>P.YP b (ihb b hb) c),P.YW x.els (fun k hk y=>ihe k hk y),Option.bind_eq_bind,Option.bind_some,Zj]
  cases x;cases y
  simp only[Tree.mk.injEq]
  repeat' split
  all_goals first|(rw[dec_of];simp_all[Zj,ZR];done)|(rw[ZE];simp_all[Zj,ZR];done)
theorem P.YAE (x y:Branch):F.f80 x y=some (dec (x=y)):=P.YP x (P.Yv x.tree) y
theorem P.YAL (a b:List Branch):F.f81 a b=some (dec (a=b)):=
  P.YK a (fun x _ y=>P.YAE x y) b
theorem P.YAO (a b:List Tree):F.f83 a b=some (dec (a=b)):=
  P.YW a (fun x _ y=>P.Yv x y) b
-- held
theorem P.YN :∀(r D:List Int) (k:Int),0≤k→k+(cntI r:Int)≤9223372036854775807→F.f86 (D++(mkI r k).1) k D.length=some (.go (mkI r k).2)
  | [],D,k,_,_=>by
    rw[F.f86,if_neg (by simp[mkI])];rfl
  |x::r,D,k,h0,h=>by
    simp only[cntI,List.length_cons]at h
    obtain⟨A,hA⟩:∃A,A=(D++[k])++(mkI r (IntKind.i64.wrap (k+1))).1:=⟨_,rfl⟩
    have h1:D++(mkI (x::r) k).1=A:=by rw[hA];simp[mkI]
    have hlt:D.length<A.length:=by rw[hA];simp
    have hget:A[D.length]? =some k:=by rw[hA];simp
    have w:IntKind.i64.wrap (k+1)=k+1:=ZB (by omega) (by omega)
    have ihr:=P.YN r (D++[k]) (IntKind.i64.wrap (k+1)) (by rw[w];omega) (by rw[w];simp only[cntI];omega)
    rw[←hA]at ihr
    simp only[List.length_append,List.length_cons,List.length_nil,Nat.zero_add]at ihr
    rw[h1,F.f86,if_pos hlt,hget]
    simp only[Option.bind_eq_bind,Option.bind_some,if_true]
    exact ihr
theorem P.Yo (l:List Int)(k:Int)(h0:0≤k)(h:k+(cntI l:Int)≤9223372036854775807):F.f87 (mkI l k).1 k=some (mkI l k).2:=by
  unfold F.f87
  have:=P.YN l [] k h0 h
  simp only[List.nil_append,List.length_nil]at this
  rw[this]
  rfl
theorem P.YQ :∀m:Nat,(∀(r D:List PathBind) (k:Int),SizeOf.sizeOf r<m→0≤k→k+(PathBind.cntL r:Int)≤9223372036854775807→F.f88 (D++(PathBind.mkL r k).1) k D.length=some (.go (PathBind.mkL r k).2)):=by
  intro m
  induction m with
  |zero=>exact fun r D k h=>absurd h (Nat.not_lt_zero _)
  |succ m ih=>
    intro r D k hm h0 h
    induction r generalizing D k with
    |nil=>rw[F.f88,if_neg (by simp[PathBind.mkL])];simp[PathBind.mkL]
    |cons x r ihr=>
      have hr:SizeOf.sizeOf r<m+1:=by simp at hm;omega
      simp only[PathBind.cntL]at h
      have hE:(PathBind.mkE x k).2=k+(PathBind.cnt x:Int):=by
        have h2:=PathBind.mkL_snd [x] k h0 (by simp only[PathBind.cntL];omega)
        simpa[PathBind.mkL,PathBind.cntL]using h2
      obtain⟨A,hA⟩:∃A,A=(D++[(PathBind.mkE x k).1])++(PathBind.mkL r (PathBind.mkE x k).2).1:=⟨_,rfl⟩
      have h1:D++(PathBind.mkL (x::r) k).1=A:=by rw[hA];simp[PathBind.mkL]
      have hlt:D.length<A.length:=by rw[hA];simp
      have hget:A[D.length]? =some (PathBind.mkE x k).1:=by rw[hA];simp
      have ihr2:=ihr (D++[(PathBind.mkE x k).1]) (PathBind.mkE x k).2 hr (by rw[hE];omega) (by rw[hE];omega)
      rw[←hA]at ihr2
      simp only[List.length_append,List.length_cons,List.length_nil,Nat.zero_add]at ihr2
      have e2:(PathBind.mkL (x::r) k).2=(PathBind.mkL r (PathBind.mkE x k).2).2:=by rw[PathBind.mkL]
      rw[e2,h1,F.f88,if_pos hlt,hget]
      simp only[Option.bind_eq_bind,Option.bind_some]
      generalize hk2:(PathBind.mkE x k).2=k2 at ihr2 hE ⊢
      clear hA h1 hget e2 ihr
      obtain⟨var,path⟩:=x
      simp only[PathBind.cnt]at h hE
      simp only[PathBind.mkE]at hk2 ⊢
      have w1:IntKind.i64.wrap (k+1)=k+1:=ZB (by omega) (by omega)
      rw[if_pos (by first|rfl|trivial)]
      have rw2:IntKind.i64.wrap (k+1)=k+1:=by simp only[w1]
      have qw2:F.f87 (mkI path (IntKind.i64.wrap (k+1))).1 (IntKind.i64.wrap (k+1))=some (mkI path (IntKind.i64.wrap (k+1))).2:=P.Yo _ _ (by rw[rw2];omega) (by rw[rw2];omega)
      have w2:(mkI path (k+1)).2=k+1+(cntI path:Int):=ZAz _ _ (by omega) (by omega)
      rw[qw2]
      simp only[Option.bind_some]
      rw[if_neg (by rw[rw2,w2];omega)]
      rw[hk2]
      exact ihr2
theorem P.YM (r D:List PathBind)(k:Int)(h0:0≤k)(h:k+(PathBind.cntL r:Int)≤9223372036854775807):F.f88 (D++(PathBind.mkL r k).1) k D.length=some (.go (PathBind.mkL r k).2):=(P.YQ (SizeOf.sizeOf r+1)) r D k (Nat.lt_succ_self _) h0 h
theorem P.Yd (l:List PathBind)(k:Int)(h0:0≤k)(h:k+(PathBind.cntL l:Int)≤9223372036854775807):F.f89 (PathBind.mkL l k).1 k=some (PathBind.mkL l k).2:=by
  unfold F.f89
  have:=P.YM l [] k h0 h
  simp only[List.nil_append,List.length_nil]at this
  rw[this]
  rfl
theorem P.Yp :∀m:Nat,(∀(r D:List Edge) (k:Int),SizeOf.sizeOf r<m→0≤k→k+(Edge.cntL r:Int)≤9223372036854775807→F.f90 (D++(Edge.mkL r k).1) k D.length=some (.go (Edge.mkL r k).2)):=by
  intro m
  induction m with
  |zero=>exact fun r D k h=>absurd h (Nat.not_lt_zero _)
  |succ m ih=>
    intro r D k hm h0 h
    induction r generalizing D k with
    |nil=>rw[F.f90,if_neg (by simp[Edge.mkL])];simp[Edge.mkL]
    |cons x r ihr=>
      have hr:SizeOf.sizeOf r<m+1:=by simp at hm;omega
      simp only[Edge.cntL]at h
      have hE:(Edge.mkE x k).2=k+(Edge.cnt x:Int):=by
        have h2:=Edge.mkL_snd [x] k h0 (by simp only[Edge.cntL];omega)
        simpa[Edge.mkL,Edge.cntL]using h2
      obtain⟨A,hA⟩:∃A,A=(D++[(Edge.mkE x k).1])++(Edge.mkL r (Edge.mkE x k).2).1:=⟨_,rfl⟩
      have h1:D++(Edge.mkL (x::r) k).1=A:=by rw[hA];simp[Edge.mkL]
      have hlt:D.length<A.length:=by rw[hA];simp
      have hget:A[D.length]? =some (Edge.mkE x k).1:=by rw[hA];simp
      have ihr2:=ihr (D++[(Edge.mkE x k).1]) (Edge.mkE x k).2 hr (by rw[hE];omega) (by rw[hE];omega)
      rw[←hA]at ihr2
      simp only[List.length_append,List.length_cons,List.length_nil,Nat.zero_add]at ihr2
      have e2:(Edge.mkL (x::r) k).2=(Edge.mkL r (Edge.mkE x k).2).2:=by rw[Edge.mkL]
      rw[e2,h1,F.f90,if_pos hlt,hget]
      simp only[Option.bind_eq_bind,Option.bind_some]
      generalize hk2:(Edge.mkE x k).2=k2 at ihr2 hE ⊢
      clear hA h1 hget e2 ihr
      obtain⟨ctor,n,m,to⟩:=x
      simp only[Edge.cnt]at h hE
      simp only[Edge.mkE]at hk2 ⊢
      have w1:IntKind.i64.wrap (k+1)=k+1:=ZB (by omega) (by omega)
      rw[if_pos (by first|rfl|trivial)]
      have w2:IntKind.i64.wrap (k+1+1)=k+1+1:=ZB (by omega) (by omega)
      rw[if_pos (by first|rfl|trivial)]
      have w3:IntKind.i64.wrap (k+1+1+1)=k+1+1+1:=ZB (by omega) (by omega)
      rw[if_pos (by first|rfl|trivial)]
      have w4:IntKind.i64.wrap (k+1+1+1+1)=k+1+1+1+1:=ZB (by omega) (by omega)
      rw[if_pos (by first|rfl|trivial)]
      rw[hk2]
      exact ihr2
theorem P.Yi (r D:List Edge)(k:Int)(h0:0≤k)(h:k+(Edge.cntL r:Int)≤9223372036854775807):F.f90 (D++(Edge.mkL r k).1) k D.length=some (.go (Edge.mkL r k).2):=(P.Yp (SizeOf.sizeOf r+1)) r D k (Nat.lt_succ_self _) h0 h
theorem P.YAB (l:List Edge)(k:Int)(h0:0≤k)(h:k+(Edge.cntL l:Int)≤9223372036854775807):F.f91 (Edge.mkL l k).1 k=some (Edge.mkL l k).2:=by
  unfold F.f91
  have:=P.Yi l [] k h0 h
  simp only[List.nil_append,List.length_nil]at this
  rw[this]
  rfl
theorem P.Yn :∀m:Nat,(∀(r D:List Node) (k:Int),SizeOf.sizeOf r<m→0≤k→k+(Node.cntL r:Int)≤9223372036854775807→F.f92 (D++(Node.mkL r k).1) k D.length=some (.go (Node.mkL r k).2)):=by
  intro m
  induction m with
  |zero=>exact fun r D k h=>absurd h (Nat.not_lt_zero _)
  |succ m ih=>
    intro r D k hm h0 h
    induction r generalizing D k with
    |nil=>rw[F.f92,if_neg (by simp[Node.mkL])];simp[Node.mkL]
    |cons x r ihr=>
      have hr:SizeOf.sizeOf r<m+1:=by simp at hm;omega
      simp only[Node.cntL]at h
      have hE:(Node.mkE x k).2=k+(Node.cnt x:Int):=by
        have h2:=Node.mkL_snd [x] k h0 (by simp only[Node.cntL];omega)
        simpa[Node.mkL,Node.cntL]using h2
      obtain⟨A,hA⟩:∃A,A=(D++[(Node.mkE x k).1])++(Node.mkL r (Node.mkE x k).2).1:=⟨_,rfl⟩
      have h1:D++(Node.mkL (x::r) k).1=A:=by rw[hA];simp[Node.mkL]
      have hlt:D.length<A.length:=by rw[hA];simp
      have hget:A[D.length]? =some (Node.mkE x k).1:=by rw[hA];simp
      have ihr2:=ihr (D++[(Node.mkE x k).1]) (Node.mkE x k).2 hr (by rw[hE];omega) (by rw[hE];omega)
      rw[←hA]at ihr2
      simp only[List.length_append,List.length_cons,List.length_nil,Nat.zero_add]at ihr2
      have e2:(Node.mkL (x::r) k).2=(Node.mkL r (Node.mkE x k).2).2:=by rw[Node.mkL]
      rw[e2,h1,F.f92,if_pos hlt,hget]
      simp only[Option.bind_eq_bind,Option.bind_some]
      generalize hk2:(Node.mkE x k).2=k2 at ihr2 hE ⊢
      clear hA h1 hget e2 ihr
      obtain⟨op,clause,binds,path,edges,els⟩:=x
      simp only[Node.cnt]at h hE
      simp only[Node.mkE]at hk2 ⊢
      have w1:IntKind.i64.wrap (k+1)=k+1:=ZB (by omega) (by omega)
      rw[if_pos (by first|rfl|trivial)]
      have w2:IntKind.i64.wrap (k+1+1)=k+1+1:=ZB (by omega) (by omega)
      rw[if_pos (by first|rfl|trivial)]
      have rw3:IntKind.i64.wrap ((IntKind.i64.wrap (k+1))+1)=k+1+1:=by simp only[w1,w2]
      have qw3:F.f89 (PathBind.mkL binds (IntKind.i64.wrap ((IntKind.i64.wrap (k+1))+1))).1 (IntKind.i64.wrap ((IntKind.i64.wrap (k+1))+1))=some (PathBind.mkL binds (IntKind.i64.wrap ((IntKind.i64.wrap (k+1))+1))).2:=P.Yd _ _ (by rw[rw3];omega) (by rw[rw3];omega)
      have w3:(PathBind.mkL binds (k+1+1)).2=k+1+1+(PathBind.cntL binds:Int):=PathBind.mkL_snd _ _ (by omega) (by omega)
      rw[qw3]
      simp only[Option.bind_some]
      rw[if_neg (by rw[rw3,w3];omega)]
      have rw4:(PathBind.mkL binds (IntKind.i64.wrap ((IntKind.i64.wrap (k+1))+1))).2=k+1+1+(PathBind.cntL binds:Int):=by simp only[w1,w2,w3]
      have qw4:F.f87 (mkI path ((PathBind.mkL binds (IntKind.i64.wrap ((IntKind.i64.wrap (k+1))+1))).2)).1 ((PathBind.mkL binds (IntKind.i64.wrap ((IntKind.i64.wrap (k+1))+1))).2)=some (mkI path ((PathBind.mkL binds (IntKind.i64.wrap ((IntKind.i64.wrap (k+1))+1))).2)).2:=P.Yo _ _ (by rw[rw4];omega) (by rw[rw4];omega)
      have w4:(mkI path (k+1+1+(PathBind.cntL binds:Int))).2=k+1+1+(PathBind.cntL binds:Int)+(cntI path:Int):=ZAz _ _ (by omega) (by omega)
      rw[qw4]
      simp only[Option.bind_some]
      rw[if_neg (by rw[rw4,w4];omega)]
      have rw5:(mkI path ((PathBind.mkL binds (IntKind.i64.wrap ((IntKind.i64.wrap (k+1))+1))).2)).2=k+1+1+(PathBind.cntL binds:Int)+(cntI path:Int):=by simp only[w1,w2,w3,w4]
      have qw5:F.f91 (Edge.mkL edges ((mkI path ((PathBind.mkL binds (IntKind.i64.wrap ((IntKind.i64.wrap (k+1))+1))).2)).2)).1 ((mkI path ((PathBind.mkL binds (IntKind.i64.wrap ((IntKind.i64.wrap (k+1))+1))).2)).2)=some (Edge.mkL edges ((mkI path ((PathBind.mkL binds (IntKind.i64.wrap ((IntKind.i64.wrap (k+1))+1))).2)).2)).2:=P.YAB _ _ (by rw[rw5];omega) (by rw[rw5];omega)
      have w5:(Edge.mkL edges (k+1+1+(PathBind.cntL binds:Int)+(cntI path:Int))).2=k+1+1+(PathBind.cntL binds:Int)+(cntI path:Int)+(Edge.cntL edges:Int):=Edge.mkL_snd _ _ (by omega) (by omega)
      rw[qw5]
      simp only[Option.bind_some]
      rw[if_neg (by rw[rw5,w5];omega)]
      have w6:IntKind.i64.wrap (k+1+1+(PathBind.cntL binds:Int)+(cntI path:Int)+(Edge.cntL edges:Int)+1)=k+1+1+(PathBind.cntL binds:Int)+(cntI path:Int)+(Edge.cntL edges:Int)+1:=ZB (by omega) (by omega)
      rw[if_pos (by first|rfl|trivial)]
      rw[hk2]
      exact ihr2
theorem P.Yh (r D:List Node)(k:Int)(h0:0≤k)(h:k+(Node.cntL r:Int)≤9223372036854775807):F.f92 (D++(Node.mkL r k).1) k D.length=some (.go (Node.mkL r k).2):=(P.Yn (SizeOf.sizeOf r+1)) r D k (Nat.lt_succ_self _) h0 h
theorem P.YAA (l:List Node)(k:Int)(h0:0≤k)(h:k+(Node.cntL l:Int)≤9223372036854775807):F.f93 (Node.mkL l k).1 k=some (Node.mkL l k).2:=by
  unfold F.f93
  have:=P.Yh l [] k h0 h
  simp only[List.nil_append,List.length_nil]at this
  rw[this]
  rfl
end Go.Vl
