/- The contracts: the code computes the functions (printed by gen.py). -/
import Derived.Test.YtbibfeagkocjlaaProg
import Derived.Test.YtbibfeagkocjlaaExactShareTreeF
namespace Go.Proofs.Ytbibfeagkocjlaa
open Go Go.Proofs Go.Vl
set_option linter.all false
set_option maxRecDepth 100000
set_option maxHeartbeats 4000000
set_option synthInstance.maxSize 100000
set_option synthInstance.maxHeartbeats 4000000
attribute [local irreducible] GhK ECallA NCallA aL aLg AMake MLoop AgainM LeaveM ZBq ZBJ MutCall BCall chk abr ACall ALoop ALoopU ADraw Again Leave ZFM PCall ZBb awp ZHn PureCall hold
abbrev li (x:Int):AV:=.lit (.int .i64 x)
abbrev am {α:Type}(f:α→List AV)(l:List α):AV:=.arr (List.map f l)
theorem follows :Try.prog.follows .mixedOrders=true:=by kernel_rfl
@[simp] theorem ti2 :Zl Try.prog 2=some ⟨.word,1,[.int .i64 0]⟩:=by kernel_rfl
@[simp] theorem ti3 :Zl Try.prog 3=some ⟨.word,1,[.int .i64 0]⟩:=by kernel_rfl
@[simp] theorem ti4 :Zl Try.prog 4=some ⟨.word,1,[.bool false]⟩:=by kernel_rfl
@[simp] theorem ti5 :Zl Try.prog 5=some ⟨.word,1,[.int .u8 0]⟩:=by kernel_rfl
@[simp] theorem ZPV :Zl Try.prog 22=some ⟨.slice 2 32 [.int .i64 0,.slice none 0 0],1,[.slice none 0 0]⟩:=by kernel_rfl
@[simp] theorem ZPe :ZFv Try.prog 22=true:=by kernel_rfl
@[simp] theorem ZPU :Zl Try.prog 23=some ⟨.slice 1 8 [.int .i64 0],1,[.slice none 0 0]⟩:=by kernel_rfl
@[simp] theorem ZPd :ZFv Try.prog 23=true:=by kernel_rfl
@[simp] theorem ZPT :Zl Try.prog 24=some ⟨.slice 9 136 [.int .i64 0,.int .i64 0,.int .i64 0,.int .i64 0,.int .i64 0,.slice none 0 0,.slice none 0 0,.slice none 0 0,.slice none 0 0],1,[.slice none 0 0]⟩:=by kernel_rfl
@[simp] theorem ZPc :ZFv Try.prog 24=true:=by kernel_rfl
@[simp] theorem ZPS :Zl Try.prog 25=some ⟨.slice 6 112 [.int .i64 0,.int .i64 0,.slice none 0 0,.slice none 0 0,.slice none 0 0,.slice none 0 0],1,[.slice none 0 0]⟩:=by kernel_rfl
@[simp] theorem ZPb :ZFv Try.prog 25=true:=by kernel_rfl
@[simp] theorem ZPR :Zl Try.prog 27=some ⟨.struct [(0,1),(1,1),(2,1),(3,1),(4,1),(5,1)],6,[.int .i64 0,.int .i64 0,.slice none 0 0,.slice none 0 0,.slice none 0 0,.slice none 0 0]⟩:=by kernel_rfl
@[simp] theorem ZPQ :Zl Try.prog 29=some ⟨.slice 6 96 [.int .i64 0,.int .i64 0,.slice none 0 0,.slice none 0 0,.slice none 0 0,.int .i64 0],1,[.slice none 0 0]⟩:=by kernel_rfl
@[simp] theorem ZPa :ZFv Try.prog 29=true:=by kernel_rfl
@[simp] theorem ZPP :Zl Try.prog 32=some ⟨.slice 2 32 [.int .i64 0,.slice none 0 0],1,[.slice none 0 0]⟩:=by kernel_rfl
@[simp] theorem ZPZ :ZFv Try.prog 32=true:=by kernel_rfl
@[simp] theorem ZPO :Zl Try.prog 33=some ⟨.slice 9 136 [.int .i64 0,.int .i64 0,.int .i64 0,.int .i64 0,.int .i64 0,.slice none 0 0,.slice none 0 0,.slice none 0 0,.slice none 0 0],1,[.slice none 0 0]⟩:=by kernel_rfl
@[simp] theorem ZPY :ZFv Try.prog 33=true:=by kernel_rfl
@[simp] theorem ZPN :Zl Try.prog 34=some ⟨.slice 6 112 [.int .i64 0,.int .i64 0,.slice none 0 0,.slice none 0 0,.slice none 0 0,.slice none 0 0],1,[.slice none 0 0]⟩:=by kernel_rfl
@[simp] theorem ZPX :ZFv Try.prog 34=true:=by kernel_rfl
@[simp] theorem ZPM :Zl Try.prog 36=some ⟨.struct [(0,1),(1,1),(2,1),(3,1),(4,1),(5,1)],6,[.int .i64 0,.int .i64 0,.slice none 0 0,.slice none 0 0,.slice none 0 0,.slice none 0 0]⟩:=by kernel_rfl
@[simp] theorem ZPL :Zl Try.prog 58=some ⟨.slice 4 32 [.int .i64 0,.int .i64 0,.int .i64 0,.int .i64 0],1,[.slice none 0 0]⟩:=by kernel_rfl
@[simp] theorem ZPW :ZFv Try.prog 58=true:=by kernel_rfl
@[simp] theorem ZPK :Zl Try.prog 60=some ⟨.struct [(0,1),(1,1),(2,1),(3,1),(4,1),(5,1)],6,[.int .i64 0,.int .i64 0,.slice none 0 0,.slice none 0 0,.slice none 0 0,.int .i64 0]⟩:=by kernel_rfl
@[simp] theorem ZPJ :Zl Try.prog 71=some ⟨.struct [(0,1),(1,1)],2,[.int .i64 0,.slice none 0 0]⟩:=by kernel_rfl
@[simp] theorem ZPI :Zl Try.prog 74=some ⟨.struct [(0,1),(1,1),(2,1),(3,6)],9,[.int .i64 0,.int .i64 0,.int .i64 0,.int .i64 0,.int .i64 0,.slice none 0 0,.slice none 0 0,.slice none 0 0,.slice none 0 0]⟩:=by kernel_rfl
@[simp] theorem ZPH :Zl Try.prog 76=some ⟨.struct [(0,1),(1,1),(2,1),(3,6)],9,[.int .i64 0,.int .i64 0,.int .i64 0,.int .i64 0,.int .i64 0,.slice none 0 0,.slice none 0 0,.slice none 0 0,.slice none 0 0]⟩:=by kernel_rfl
@[simp] theorem ZPG :Zl Try.prog 80=some ⟨.struct [(0,1),(1,1),(2,1),(3,1)],4,[.int .i64 0,.int .i64 0,.int .i64 0,.int .i64 0]⟩:=by kernel_rfl
@[simp] theorem ZPf :ZCq Try.prog 80=true:=by kernel_rfl
@[simp] theorem ZPF :Zl Try.prog 81=some ⟨.struct [(0,1),(1,1)],2,[.int .i64 0,.slice none 0 0]⟩:=by kernel_rfl
attribute [simp] Try.underlying2 Try.underlying3 Try.underlying4 Try.underlying5 Try.underlying22 Try.underlying23 Try.underlying24 Try.underlying25 Try.underlying29 Try.underlying32 Try.underlying33 Try.underlying34 Try.underlying58 Try.results3 Try.results4 Try.results5 Try.results6 Try.results7 Try.results8 Try.results9 Try.results10 Try.results11 Try.results12 Try.results13 Try.results14 Try.results15 Try.results16 Try.results17 Try.results18 Try.results19 Try.results20 Try.results21 Try.results22 Try.results23 Try.results24 Try.results25 Try.results26 Try.results27 Try.results28 Try.results29 Try.results30 Try.results31 Try.results32 Try.results33 Try.results34 Try.results35 Try.results36 Try.results37 Try.results38 Try.results39 Try.results40 Try.results41 Try.results42 Try.results43 Try.results44 Try.results45 Try.results46 Try.results47 Try.results48 Try.results49 Try.results50 Try.results51 Try.results52 Try.results53 Try.results54 Try.results55 Try.results56 Try.results57 Try.results58 Try.results59 Try.results60 Try.results61 Try.results62 Try.results63 Try.results64 Try.results65 Try.results66 Try.results67
variable (B : Nat) (hB1 : 1073741824 ≤ bd B) (hB2 : bd B ≤ 9223372036854775807)
include hB1 hB2
theorem C.f0 (a:List Int)(left':Int)(r:Int)(hF:F.f0 a left'=some r):PureCall Try.prog B 14 [am cI a,li left'] (li r):=by
 unfold F.f0 at hF
 refine PureCall.enterLe Try.func14 (by kernel_rfl) rfl Try.ntmps14 (by simp) (by simp) ?_
 repeat first|refine cg ?_|simp -dsimp
 revert hF;refine abr.sp ?_ ?_<;>intro h1 q2 hF
 ·cases hF
  repeat first|refine cg ?_|simp -dsimp[h1]
  all_goals(try first|omega|rfl)
 ·cases hF
  repeat first|refine cg ?_|simp -dsimp[h1,q2]
  all_goals(try first|omega|rfl)
theorem C.f1 (a:PathBind)(left':Int)(r:Int)(hF:F.f1 a left'=some r):PureCall Try.prog B 40 [.agg [li a.var,am cI a.path],li left'] (li r):=by
 unfold F.f1 at hF
 refine PureCall.enterLe Try.func40 (by kernel_rfl) rfl Try.ntmps40 (by simp) (by simp) ?_
 repeat first|refine cg ?_|simp -dsimp
 have hF:=ob hF;obtain⟨v,e1,hF⟩:=hF
 refine((C.f0 B hB1 hB2 a.path left' v e1)).goW (by simp) (by simp) ?_
 repeat first|refine cg ?_|simp -dsimp
 revert hF;refine abr.sp ?_ ?_<;>intro h2 q3 hF
 ·cases hF
  repeat first|refine cg ?_|simp -dsimp[h2]
  all_goals(try first|omega|rfl)
 ·cases hF
  repeat first|refine cg ?_|simp -dsimp[h2,q3]
  all_goals(try first|omega|rfl)
theorem CC.f2 (a:List PathBind):(∀(left'3:Int) (i:Nat) (o:Lo Int Int),F.f2 a left'3 i=some o→∀(c:Code),ZAC [1,1,1,0,1,0,0] (ZL Try.f13)=some c→∀(Q:Exit→ASt→Prop),o.post (fun r=>∀st,ZBb Try.prog Try.f13 (fun r' _=>r'.le (li r)) .ret st→Q .ret st) (fun s=>Q (.exit 0) ⟨[(1,li s)],[]⟩)→ALoopU Try.prog B 0 27 (hold c .mk) ⟨[(0,am PathBind.c a),(1,li left'3),(5,li (i:Int))],[]⟩ (hold Q .mk)):=by
 refine F.f2.partial_correctness a
  _
  ?_
 ·intro _f_f2 ih_f2 left'3 i o hF
  intro c hc Q hq
  obtain rfl:c=_:=ZS hc rfl
  refine ALoopU.know fun hk hs=> ?_
  have b0:=hk 0
  simp -dsimp at b0
  clear hk hs
  refine ALoopU.enter ?_
  repeat first|refine cg ?_|simp -dsimp
  revert hF;refine abr.sp ?_ ?_<;>intro h4 q5 hF
  ·have z6:((i:Int)<(a.length:Int)):=auz
   have hF:=ob hF;obtain⟨x,e7,hF⟩:=hF
   have le7:=ZD e7
   repeat first|refine cg ?_|simp -dsimp[h4,z6,↓e7]
   have hF:=ob hF;obtain⟨v,e8,hF⟩:=hF
   refine((C.f1 B hB1 hB2 x left'3 v e8)).goW (by first|simp[h4,z6,↓e7];done|simp_all) (by simp) ?_
   repeat first|refine cg ?_|simp -dsimp[h4,z6,↓e7]
   revert hF;refine abr.sp ?_ ?_<;>intro h9 q10 hF
   ·cases hF
    repeat first|refine cg ?_|simp -dsimp[h4,z6,↓e7,h9]
    refine Leave.go _ (Gh.refl _) (hq _ ?_)
    repeat first|refine cg ?_|simp -dsimp[h4,z6,↓e7,h9]
   ·have w11:IntKind.i64.wrap ((i:Int)+1)=(i:Int)+1:=ZB (by omega) (by omega)
    repeat first|refine cg ?_|simp -dsimp[h4,z6,↓e7,h9,q10,w11]
    refine Again.go _ ?_ ((ih_f2 v (i+1) o hF) _ rfl _ hq)
    exact(Gh.to3 (by simp) (by first|simp -dsimp[h4,z6,↓e7,h9,q10,w11];done|simp_all))
  ·have z6:¬((i:Int)<(a.length:Int)):=auz
   cases hF
   repeat first|refine cg ?_|simp -dsimp[h4,q5,z6]
   refine Leave.go _ (Gh.to3 (by simp) (by first|simp -dsimp[h4,q5,z6];done|simp_all)) hq
theorem C.f3 (a:List PathBind)(left':Int)(r:Int)(hF:F.f3 a left'=some r):PureCall Try.prog B 13 [am PathBind.c a,li left'] (li r):=by
 unfold F.f3 at hF
 refine PureCall.enterLe Try.func13 (by kernel_rfl) rfl Try.ntmps13 (by simp) (by simp) ?_
 repeat first|refine cg ?_|simp -dsimp
 revert hF;refine abr.sp ?_ ?_<;>intro h1 q2 hF
 ·cases hF
  repeat first|refine cg ?_|simp -dsimp[h1]
  all_goals(try first|omega|rfl)
 ·repeat first|refine cg ?_|simp -dsimp[h1,q2]
  have hF:=ob hF;obtain⟨o',ho12,hF⟩:=hF
  refine ALoop.goU _ ?_ (((CC.f2 B hB1 hB2 a) (IntKind.i64.wrap (left'- (a.length:Int))) 0 o' ho12) _ rfl _ ?_)
  ·exact(Gh.to3 (by simp) (by first|simp -dsimp[h1,q2];done|simp_all))
  rcases o' with r0|sx
  ·dsimp only at hF
   cases hF
   intro st h
   simpa using h
  ·dsimp only at hF
   cases hF
   repeat first|refine cg ?_|simp -dsimp
   all_goals(try first|omega|rfl)
theorem CC.f4  :(∀(a:Branch) (left':Int) (r:Int),F.f4 a left'=some r→PureCall Try.prog B 41 [.agg [li a.ctor,li a.n,li a.m,li a.tree.op,li a.tree.clause,am PathBind.c a.tree.binds,am cI a.tree.path,am Branch.c a.tree.branches,am Tree.c a.tree.els],li left'] (li r))∧
  (∀(a:Tree) (left':Int) (r:Int),F.f6 a left'=some r→PureCall Try.prog B 4 [.agg [li a.op,li a.clause,am PathBind.c a.binds,am cI a.path,am Branch.c a.branches,am Tree.c a.els],li left'] (li r))∧
  (∀(a:List Tree) (left':Int) (r:Int),F.f7 a left'=some r→PureCall Try.prog B 16 [am Tree.c a,li left'] (li r))∧
  (∀(a:List Tree) (left'3:Int) (i:Nat) (o:Lo Int Int),F.f9 a left'3 i=some o→∀(c:Code),ZAC [1,1,1,0,1,0,0] (ZL Try.f16)=some c→∀(Q:Exit→ASt→Prop),o.post (fun r=>∀st,ZBb Try.prog Try.f16 (fun r' _=>r'.le (li r)) .ret st→Q .ret st) (fun s=>Q (.exit 0) ⟨[(1,li s)],[]⟩)→ALoopU Try.prog B 0 27 (hold c .mk) ⟨[(0,am Tree.c a),(1,li left'3),(5,li (i:Int))],[]⟩ (hold Q .mk))∧
  (∀(a:List Branch) (left':Int) (r:Int),F.f5 a left'=some r→PureCall Try.prog B 15 [am Branch.c a,li left'] (li r))∧
  (∀(a:List Branch) (left'3:Int) (i:Nat) (o:Lo Int Int),F.f8 a left'3 i=some o→∀(c:Code),ZAC [1,1,1,0,1,0,0] (ZL Try.f15)=some c→∀(Q:Exit→ASt→Prop),o.post (fun r=>∀st,ZBb Try.prog Try.f15 (fun r' _=>r'.le (li r)) .ret st→Q .ret st) (fun s=>Q (.exit 0) ⟨[(1,li s)],[]⟩)→ALoopU Try.prog B 0 27 (hold c .mk) ⟨[(0,am Branch.c a),(1,li left'3),(5,li (i:Int))],[]⟩ (hold Q .mk)):=by
 refine F.f4.mutual_partial_correctness 
  _ _ _ _ _ _
  ?_ ?_ ?_ ?_ ?_ ?_
 ·intro _f_f6 ih_f6 a left' r hF
  refine PureCall.enterLe Try.func41 (by kernel_rfl) rfl Try.ntmps41 (by simp) (by simp) ?_
  repeat first|refine cg ?_|simp -dsimp
  have hF:=ob hF;obtain⟨v,e1,hF⟩:=hF
  refine((ih_f6 a.tree left' v e1)).goW (by simp) (by simp) ?_
  repeat first|refine cg ?_|simp -dsimp
  revert hF;refine abr.sp ?_ ?_<;>intro h2 q3 hF
  ·cases hF
   repeat first|refine cg ?_|simp -dsimp[h2]
   all_goals(try first|omega|rfl)
  ·cases hF
   repeat first|refine cg ?_|simp -dsimp[h2,q3]
   all_goals(try first|omega|rfl)
 ·intro _f_f7 _f_f5 ih_f7 ih_f5 a left' r hF
  refine PureCall.enterLe Try.func4 (by kernel_rfl) rfl Try.ntmps4 (by simp) (by simp) ?_
  repeat first|refine cg ?_|simp -dsimp
  have hF:=ob hF;obtain⟨v,e1,hF⟩:=hF
  refine((C.f3 B hB1 hB2 a.binds left' v e1)).goW (by simp) (by simp) ?_
  repeat first|refine cg ?_|simp -dsimp
  revert hF;refine abr.sp ?_ ?_<;>intro h2 q3 hF
  ·cases hF
   repeat first|refine cg ?_|simp -dsimp[h2]
   all_goals(try first|omega|rfl)
  ·repeat first|refine cg ?_|simp -dsimp[h2,q3]
   have hF:=ob hF;obtain⟨v4,e5,hF⟩:=hF
   refine((C.f0 B hB1 hB2 a.path v v4 e5)).goW (by first|simp[h2,q3];done|simp_all) (by simp) ?_
   repeat first|refine cg ?_|simp -dsimp[h2,q3]
   revert hF;refine abr.sp ?_ ?_<;>intro h6 q7 hF
   ·cases hF
    repeat first|refine cg ?_|simp -dsimp[h2,q3,h6]
    all_goals(try first|omega|rfl)
   ·repeat first|refine cg ?_|simp -dsimp[h2,q3,h6,q7]
    have hF:=ob hF;obtain⟨v8,e9,hF⟩:=hF
    refine((ih_f5 a.branches v4 v8 e9)).goW (by first|simp[h2,q3,h6,q7];done|simp_all) (by simp) ?_
    repeat first|refine cg ?_|simp -dsimp[h2,q3,h6,q7]
    revert hF;refine abr.sp ?_ ?_<;>intro h10 q11 hF
    ·cases hF
     repeat first|refine cg ?_|simp -dsimp[h2,q3,h6,q7,h10]
     all_goals(try first|omega|rfl)
    ·repeat first|refine cg ?_|simp -dsimp[h2,q3,h6,q7,h10,q11]
     have hF:=ob hF;obtain⟨v12,e13,hF⟩:=hF
     refine((ih_f7 a.els v8 v12 e13)).goW (by first|simp[h2,q3,h6,q7,h10,q11];done|simp_all) (by simp) ?_
     repeat first|refine cg ?_|simp -dsimp[h2,q3,h6,q7,h10,q11]
     revert hF;refine abr.sp ?_ ?_<;>intro h14 q15 hF
     ·cases hF
      repeat first|refine cg ?_|simp -dsimp[h2,q3,h6,q7,h10,q11,h14]
      all_goals(try first|omega|rfl)
     ·cases hF
      repeat first|refine cg ?_|simp -dsimp[h2,q3,h6,q7,h10,q11,h14,q15]
      all_goals(try first|omega|rfl)
 ·intro _f_f9 ih_f9 a left' r hF
  refine PureCall.enterLe Try.func16 (by kernel_rfl) rfl Try.ntmps16 (by simp) (by simp) ?_
  repeat first|refine cg ?_|simp -dsimp
  revert hF;refine abr.sp ?_ ?_<;>intro h1 q2 hF
  ·cases hF
   repeat first|refine cg ?_|simp -dsimp[h1]
   all_goals(try first|omega|rfl)
  ·repeat first|refine cg ?_|simp -dsimp[h1,q2]
   have hF:=ob hF;obtain⟨o',ho12,hF⟩:=hF
   refine ALoop.goU _ ?_ ((ih_f9 a (IntKind.i64.wrap (left'- (a.length:Int))) 0 o' ho12) _ rfl _ ?_)
   ·exact(Gh.to3 (by simp) (by first|simp -dsimp[h1,q2];done|simp_all))
   rcases o' with r0|sx
   ·dsimp only at hF
    cases hF
    intro st h
    simpa using h
   ·dsimp only at hF
    cases hF
    repeat first|refine cg ?_|simp -dsimp
    all_goals(try first|omega|rfl)
 ·intro _f_f6 _f_f9 ih_f6 ih_f9 a left'3 i o hF
  intro c hc Q hq
  obtain rfl:c=_:=ZS hc rfl
  refine ALoopU.know fun hk hs=> ?_
  have b0:=hk 0
  simp -dsimp at b0
  clear hk hs
  refine ALoopU.enter ?_
  repeat first|refine cg ?_|simp -dsimp
  revert hF;refine abr.sp ?_ ?_<;>intro h4 q5 hF
  ·have z6:((i:Int)<(a.length:Int)):=auz
   have hF:=ob hF;obtain⟨x,e7,hF⟩:=hF
   have le7:=ZD e7
   repeat first|refine cg ?_|simp -dsimp[h4,z6,↓e7]
   have hF:=ob hF;obtain⟨v,e8,hF⟩:=hF
   refine((ih_f6 x left'3 v e8)).goW (by first|simp[h4,z6,↓e7];done|simp_all) (by simp) ?_
   repeat first|refine cg ?_|simp -dsimp[h4,z6,↓e7]
   revert hF;refine abr.sp ?_ ?_<;>intro h9 q10 hF
   ·cases hF
    repeat first|refine cg ?_|simp -dsimp[h4,z6,↓e7,h9]
    refine Leave.go _ (Gh.refl _) (hq _ ?_)
    repeat first|refine cg ?_|simp -dsimp[h4,z6,↓e7,h9]
   ·have w11:IntKind.i64.wrap ((i:Int)+1)=(i:Int)+1:=ZB (by omega) (by omega)
    repeat first|refine cg ?_|simp -dsimp[h4,z6,↓e7,h9,q10,w11]
    refine Again.go _ ?_ ((ih_f9 a v (i+1) o hF) _ rfl _ hq)
    exact(Gh.to3 (by simp) (by first|simp -dsimp[h4,z6,↓e7,h9,q10,w11];done|simp_all))
  ·have z6:¬((i:Int)<(a.length:Int)):=auz
   cases hF
   repeat first|refine cg ?_|simp -dsimp[h4,q5,z6]
   refine Leave.go _ (Gh.to3 (by simp) (by first|simp -dsimp[h4,q5,z6];done|simp_all)) hq
 ·intro _f_f8 ih_f8 a left' r hF
  refine PureCall.enterLe Try.func15 (by kernel_rfl) rfl Try.ntmps15 (by simp) (by simp) ?_
  repeat first|refine cg ?_|simp -dsimp
  revert hF;refine abr.sp ?_ ?_<;>intro h1 q2 hF
  ·cases hF
   repeat first|refine cg ?_|simp -dsimp[h1]
   all_goals(try first|omega|rfl)
  ·repeat first|refine cg ?_|simp -dsimp[h1,q2]
   have hF:=ob hF;obtain⟨o',ho12,hF⟩:=hF
   refine ALoop.goU _ ?_ ((ih_f8 a (IntKind.i64.wrap (left'- (a.length:Int))) 0 o' ho12) _ rfl _ ?_)
   ·exact(Gh.to3 (by simp) (by first|simp -dsimp[h1,q2];done|simp_all))
   rcases o' with r0|sx
   ·dsimp only at hF
    cases hF
    intro st h
    simpa using h
   ·dsimp only at hF
    cases hF
    repeat first|refine cg ?_|simp -dsimp
    all_goals(try first|omega|rfl)
 ·intro _f_f4 _f_f8 ih_f4 ih_f8 a left'3 i o hF
  intro c hc Q hq
  obtain rfl:c=_:=ZS hc rfl
  refine ALoopU.know fun hk hs=> ?_
  have b0:=hk 0
  simp -dsimp at b0
  clear hk hs
  refine ALoopU.enter ?_
  repeat first|refine cg ?_|simp -dsimp
  revert hF;refine abr.sp ?_ ?_<;>intro h4 q5 hF
  ·have z6:((i:Int)<(a.length:Int)):=auz
   have hF:=ob hF;obtain⟨x,e7,hF⟩:=hF
   have le7:=ZD e7
   repeat first|refine cg ?_|simp -dsimp[h4,z6,↓e7]
   have hF:=ob hF;obtain⟨v,e8,hF⟩:=hF
   refine((ih_f4 x left'3 v e8)).goW (by first|simp[h4,z6,↓e7];done|simp_all) (by simp) ?_
   repeat first|refine cg ?_|simp -dsimp[h4,z6,↓e7]
   revert hF;refine abr.sp ?_ ?_<;>intro h9 q10 hF
   ·cases hF
    repeat first|refine cg ?_|simp -dsimp[h4,z6,↓e7,h9]
    refine Leave.go _ (Gh.refl _) (hq _ ?_)
    repeat first|refine cg ?_|simp -dsimp[h4,z6,↓e7,h9]
   ·have w11:IntKind.i64.wrap ((i:Int)+1)=(i:Int)+1:=ZB (by omega) (by omega)
    repeat first|refine cg ?_|simp -dsimp[h4,z6,↓e7,h9,q10,w11]
    refine Again.go _ ?_ ((ih_f8 a v (i+1) o hF) _ rfl _ hq)
    exact(Gh.to3 (by simp) (by first|simp -dsimp[h4,z6,↓e7,h9,q10,w11];done|simp_all))
  ·have z6:¬((i:Int)<(a.length:Int)):=auz
   cases hF
   repeat first|refine cg ?_|simp -dsimp[h4,q5,z6]
   refine Leave.go _ (Gh.to3 (by simp) (by first|simp -dsimp[h4,q5,z6];done|simp_all)) hq
theorem CC.f10 (a:List Int):(∀(out:List Int) (i:Nat) (o:List Int),F.f10 a out i=some o→∀(c:Code),ZAC [1,1,0,1,0,0] (ZL Try.f21)=some c→∀(Q:Exit→ASt→Prop),(Q (.exit 0) ⟨[(3,.own 0 (List.length (α:=Int) o))],[.elems 1 (List.map cI o)]⟩)→ALoopU Try.prog B 0 22 (hold c .mk) ⟨[(0,am cI a),(3,.own 0 (List.length (α:=Int) out)),(4,li (i:Int))],[.elems 1 (List.map cI out)]⟩ (hold Q .mk)):=by
 refine F.f10.partial_correctness a
  _
  ?_
 ·intro _f_f10 ih_f10 out i o hF
  intro c hc Q hq
  obtain rfl:c=_:=ZS hc rfl
  refine ALoopU.know fun hk hs=> ?_
  have b0:=hk 0
  simp -dsimp at b0
  have d0:=hs 0 _ rfl
  simp -dsimp[Blk.bnd]at d0
  clear hk hs
  refine ALoopU.enter ?_
  repeat first|refine cg ?_|simp -dsimp
  revert hF;refine abr.sp ?_ ?_<;>intro h2 q3 hF
  ·have z4:((i:Int)<(a.length:Int)):=auz
   have hF:=ob hF;obtain⟨x,e5,hF⟩:=hF
   have le5:=ZD e5
   have hF:=ob hF;obtain⟨x6,e7,hF⟩:=hF
   have le7:=ZD e7
   have w8:IntKind.i64.wrap ((i:Int)+1)=(i:Int)+1:=ZB (by omega) (by omega)
   repeat first|refine cg ?_|simp -dsimp[h2,z4,↓e5,↓e7,w8]
   refine Again.go _ ?_ ((ih_f10 (out.set i x) (i+1) o hF) _ rfl _ hq)
   exact(Gh.to3 (by simp) (by first|simp -dsimp[h2,z4,↓e5,↓e7,w8];done|simp_all))
  ·have z4:¬((i:Int)<(a.length:Int)):=auz
   cases hF
   repeat first|refine cg ?_|simp -dsimp[h2,q3,z4]
   refine Leave.go _ (Gh.to3 (by simp) (by first|simp -dsimp[h2,q3,z4];done|simp_all)) hq
theorem C.f11 (a:List Int)(r:List Int)(hF:F.f11 a=some r):PureCall Try.prog B 21 [am cI a] (am cI r):=by
 unfold F.f11 at hF
 refine PureCall.enterLe Try.func21 (by kernel_rfl) rfl Try.ntmps21 (by simp) (by simp) ?_
 have hF:=oc hF;obtain⟨c1,hF⟩:=hF
 repeat first|refine cg ?_|simp -dsimp
 have hF:=ob hF;obtain⟨o',ho9,hF⟩:=hF
 refine ALoop.goU _ ?_ (((CC.f10 B hB1 hB2 a) (List.replicate a.length 0) 0 o' ho9) _ rfl _ ?_)
 ·exact(Gh.to3 (by simp) (by simp -dsimp))
 cases hF
 repeat first|refine cg ?_|simp -dsimp
 all_goals(try first|omega|rfl)
theorem C.f12 (a:PathBind)(r:PathBind)(hF:F.f12 a=some r):PureCall Try.prog B 45 [.agg [li a.var,am cI a.path]] (.agg [li r.var,am cI r.path]):=by
 unfold F.f12 at hF
 refine PureCall.enterLe Try.func45 (by kernel_rfl) rfl Try.ntmps45 (by simp) (by simp) ?_
 repeat first|refine cg ?_|simp -dsimp
 have hF:=ob hF;obtain⟨v,e1,hF⟩:=hF
 refine((C.f11 B hB1 hB2 a.path v e1)).goW (by simp) (by simp) ?_
 cases hF
 repeat first|refine cg ?_|simp -dsimp
 all_goals(try first|omega|rfl)
theorem CC.f13 (a:List PathBind):(∀(out:List PathBind) (i:Nat) (o:List PathBind),F.f13 a out i=some o→∀(c:Code),ZAC [1,1,0,1,0,0] (ZL Try.f20)=some c→∀(Q:Exit→ASt→Prop),(Q (.exit 0) ⟨[(3,.own 0 (List.length (α:=PathBind) o))],[.elems 2 (List.map PathBind.c o)]⟩)→ALoopU Try.prog B 0 23 (hold c .mk) ⟨[(0,am PathBind.c a),(3,.own 0 (List.length (α:=PathBind) out)),(4,li (i:Int))],[.elems 2 (List.map PathBind.c out)]⟩ (hold Q .mk)):=by
 refine F.f13.partial_correctness a
  _
  ?_
 ·intro _f_f13 ih_f13 out i o hF
  intro c hc Q hq
  obtain rfl:c=_:=ZS hc rfl
  refine ALoopU.know fun hk hs=> ?_
  have b0:=hk 0
  simp -dsimp at b0
  have d0:=hs 0 _ rfl
  simp -dsimp[Blk.bnd]at d0
  clear hk hs
  refine ALoopU.enter ?_
  repeat first|refine cg ?_|simp -dsimp
  revert hF;refine abr.sp ?_ ?_<;>intro h2 q3 hF
  ·have z4:((i:Int)<(a.length:Int)):=auz
   have hF:=ob hF;obtain⟨x,e5,hF⟩:=hF
   have le5:=ZD e5
   repeat first|refine cg ?_|simp -dsimp[h2,z4,↓e5]
   have hF:=ob hF;obtain⟨v,e6,hF⟩:=hF
   refine((C.f12 B hB1 hB2 x v e6)).goW (by first|simp[h2,z4,↓e5];done|simp_all) (by simp) ?_
   have hF:=ob hF;obtain⟨x7,e8,hF⟩:=hF
   have le8:=ZD e8
   have w9:IntKind.i64.wrap ((i:Int)+1)=(i:Int)+1:=ZB (by omega) (by omega)
   repeat first|refine cg ?_|simp -dsimp[h2,z4,↓e5,↓e8,w9]
   refine Again.go _ ?_ ((ih_f13 (out.set i v) (i+1) o hF) _ rfl _ hq)
   exact(Gh.to3 (by simp) (by first|simp -dsimp[h2,z4,↓e5,↓e8,w9];done|simp_all))
  ·have z4:¬((i:Int)<(a.length:Int)):=auz
   cases hF
   repeat first|refine cg ?_|simp -dsimp[h2,q3,z4]
   refine Leave.go _ (Gh.to3 (by simp) (by first|simp -dsimp[h2,q3,z4];done|simp_all)) hq
theorem C.f14 (a:List PathBind)(r:List PathBind)(hF:F.f14 a=some r):PureCall Try.prog B 20 [am PathBind.c a] (am PathBind.c r):=by
 unfold F.f14 at hF
 refine PureCall.enterLe Try.func20 (by kernel_rfl) rfl Try.ntmps20 (by simp) (by simp) ?_
 have hF:=oc hF;obtain⟨c1,hF⟩:=hF
 repeat first|refine cg ?_|simp -dsimp
 have hF:=ob hF;obtain⟨o',ho10,hF⟩:=hF
 refine ALoop.goU _ ?_ (((CC.f13 B hB1 hB2 a) (List.replicate a.length PathBind.z) 0 o' ho10) _ rfl _ ?_)
 ·exact(Gh.to3 (by simp) (by simp -dsimp))
 cases hF
 repeat first|refine cg ?_|simp -dsimp
 all_goals(try first|omega|rfl)
theorem CC.f15  :(∀(a:Branch) (r:Branch),F.f15 a=some r→PureCall Try.prog B 46 [.agg [li a.ctor,li a.n,li a.m,li a.tree.op,li a.tree.clause,am PathBind.c a.tree.binds,am cI a.tree.path,am Branch.c a.tree.branches,am Tree.c a.tree.els]] (.agg [li r.ctor,li r.n,li r.m,li r.tree.op,li r.tree.clause,am PathBind.c r.tree.binds,am cI r.tree.path,am Branch.c r.tree.branches,am Tree.c r.tree.els]))∧
  (∀(a:Tree) (r:Tree),F.f17 a=some r→PureCall Try.prog B 6 [.agg [li a.op,li a.clause,am PathBind.c a.binds,am cI a.path,am Branch.c a.branches,am Tree.c a.els]] (.agg [li r.op,li r.clause,am PathBind.c r.binds,am cI r.path,am Branch.c r.branches,am Tree.c r.els]))∧
  (∀(a:List Tree) (r:List Tree),F.f18 a=some r→PureCall Try.prog B 23 [am Tree.c a] (am Tree.c r))∧
  (∀(a:List Tree) (out:List Tree) (i:Nat) (o:List Tree),F.f20 a out i=some o→∀(c:Code),ZAC [1,1,0,1,0,0] (ZL Try.f23)=some c→∀(Q:Exit→ASt→Prop),(Q (.exit 0) ⟨[(3,.own 0 (List.length (α:=Tree) o))],[.elems 6 (List.map Tree.c o)]⟩)→ALoopU Try.prog B 0 23 (hold c .mk) ⟨[(0,am Tree.c a),(3,.own 0 (List.length (α:=Tree) out)),(4,li (i:Int))],[.elems 6 (List.map Tree.c out)]⟩ (hold Q .mk))∧
  (∀(a:List Branch) (r:List Branch),F.f16 a=some r→PureCall Try.prog B 22 [am Branch.c a] (am Branch.c r))∧
  (∀(a:List Branch) (out:List Branch) (i:Nat) (o:List Branch),F.f19 a out i=some o→∀(c:Code),ZAC [1,1,0,1,0,0] (ZL Try.f22)=some c→∀(Q:Exit→ASt→Prop),(Q (.exit 0) ⟨[(3,.own 0 (List.length (α:=Branch) o))],[.elems 9 (List.map Branch.c o)]⟩)→ALoopU Try.prog B 0 23 (hold c .mk) ⟨[(0,am Branch.c a),(3,.own 0 (List.length (α:=Branch) out)),(4,li (i:Int))],[.elems 9 (List.map Branch.c out)]⟩ (hold Q .mk)):=by
 refine F.f15.mutual_partial_correctness 
  _ _ _ _ _ _
  ?_ ?_ ?_ ?_ ?_ ?_
 ·intro _f_f17 ih_f17 a r hF
  refine PureCall.enterLe Try.func46 (by kernel_rfl) rfl Try.ntmps46 (by simp) (by simp) ?_
  repeat first|refine cg ?_|simp -dsimp
  have hF:=ob hF;obtain⟨v,e1,hF⟩:=hF
  refine((ih_f17 a.tree v e1)).goW (by simp) (by simp) ?_
  cases hF
  repeat first|refine cg ?_|simp -dsimp
  all_goals(try first|omega|rfl)
 ·intro _f_f18 _f_f16 ih_f18 ih_f16 a r hF
  refine PureCall.enterLe Try.func6 (by kernel_rfl) rfl Try.ntmps6 (by simp) (by simp) ?_
  repeat first|refine cg ?_|simp -dsimp
  have hF:=ob hF;obtain⟨v,e1,hF⟩:=hF
  refine((C.f14 B hB1 hB2 a.binds v e1)).goW (by simp) (by simp) ?_
  repeat first|refine cg ?_|simp -dsimp
  have hF:=ob hF;obtain⟨v2,e3,hF⟩:=hF
  refine((C.f11 B hB1 hB2 a.path v2 e3)).goW (by simp) (by simp) ?_
  repeat first|refine cg ?_|simp -dsimp
  have hF:=ob hF;obtain⟨v4,e5,hF⟩:=hF
  refine((ih_f16 a.branches v4 e5)).goW (by simp) (by simp) ?_
  repeat first|refine cg ?_|simp -dsimp
  have hF:=ob hF;obtain⟨v6,e7,hF⟩:=hF
  refine((ih_f18 a.els v6 e7)).goW (by simp) (by simp) ?_
  cases hF
  repeat first|refine cg ?_|simp -dsimp
  all_goals(try first|omega|rfl)
 ·intro _f_f20 ih_f20 a r hF
  refine PureCall.enterLe Try.func23 (by kernel_rfl) rfl Try.ntmps23 (by simp) (by simp) ?_
  have hF:=oc hF;obtain⟨c1,hF⟩:=hF
  repeat first|refine cg ?_|simp -dsimp
  have hF:=ob hF;obtain⟨o',ho10,hF⟩:=hF
  refine ALoop.goU _ ?_ ((ih_f20 a (List.replicate a.length Tree.z) 0 o' ho10) _ rfl _ ?_)
  ·exact(Gh.to3 (by simp) (by simp -dsimp))
  cases hF
  repeat first|refine cg ?_|simp -dsimp
  all_goals(try first|omega|rfl)
 ·intro _f_f17 _f_f20 ih_f17 ih_f20 a out i o hF
  intro c hc Q hq
  obtain rfl:c=_:=ZS hc rfl
  refine ALoopU.know fun hk hs=> ?_
  have b0:=hk 0
  simp -dsimp at b0
  have d0:=hs 0 _ rfl
  simp -dsimp[Blk.bnd]at d0
  clear hk hs
  refine ALoopU.enter ?_
  repeat first|refine cg ?_|simp -dsimp
  revert hF;refine abr.sp ?_ ?_<;>intro h2 q3 hF
  ·have z4:((i:Int)<(a.length:Int)):=auz
   have hF:=ob hF;obtain⟨x,e5,hF⟩:=hF
   have le5:=ZD e5
   repeat first|refine cg ?_|simp -dsimp[h2,z4,↓e5]
   have hF:=ob hF;obtain⟨v,e6,hF⟩:=hF
   refine((ih_f17 x v e6)).goW (by first|simp[h2,z4,↓e5];done|simp_all) (by simp) ?_
   have hF:=ob hF;obtain⟨x7,e8,hF⟩:=hF
   have le8:=ZD e8
   have w9:IntKind.i64.wrap ((i:Int)+1)=(i:Int)+1:=ZB (by omega) (by omega)
   repeat first|refine cg ?_|simp -dsimp[h2,z4,↓e5,↓e8,w9]
   refine Again.go _ ?_ ((ih_f20 a (out.set i v) (i+1) o hF) _ rfl _ hq)
   exact(Gh.to3 (by simp) (by first|simp -dsimp[h2,z4,↓e5,↓e8,w9];done|simp_all))
  ·have z4:¬((i:Int)<(a.length:Int)):=auz
   cases hF
   repeat first|refine cg ?_|simp -dsimp[h2,q3,z4]
   refine Leave.go _ (Gh.to3 (by simp) (by first|simp -dsimp[h2,q3,z4];done|simp_all)) hq
 ·intro _f_f19 ih_f19 a r hF
  refine PureCall.enterLe Try.func22 (by kernel_rfl) rfl Try.ntmps22 (by simp) (by simp) ?_
  have hF:=oc hF;obtain⟨c1,hF⟩:=hF
  repeat first|refine cg ?_|simp -dsimp
  have hF:=ob hF;obtain⟨o',ho10,hF⟩:=hF
  refine ALoop.goU _ ?_ ((ih_f19 a (List.replicate a.length Branch.z) 0 o' ho10) _ rfl _ ?_)
  ·exact(Gh.to3 (by simp) (by simp -dsimp))
  cases hF
  repeat first|refine cg ?_|simp -dsimp
  all_goals(try first|omega|rfl)
 ·intro _f_f15 _f_f19 ih_f15 ih_f19 a out i o hF
  intro c hc Q hq
  obtain rfl:c=_:=ZS hc rfl
  refine ALoopU.know fun hk hs=> ?_
  have b0:=hk 0
  simp -dsimp at b0
  have d0:=hs 0 _ rfl
  simp -dsimp[Blk.bnd]at d0
  clear hk hs
  refine ALoopU.enter ?_
  repeat first|refine cg ?_|simp -dsimp
  revert hF;refine abr.sp ?_ ?_<;>intro h2 q3 hF
  ·have z4:((i:Int)<(a.length:Int)):=auz
   have hF:=ob hF;obtain⟨x,e5,hF⟩:=hF
   have le5:=ZD e5
   repeat first|refine cg ?_|simp -dsimp[h2,z4,↓e5]
   have hF:=ob hF;obtain⟨v,e6,hF⟩:=hF
   refine((ih_f15 x v e6)).goW (by first|simp[h2,z4,↓e5];done|simp_all) (by simp) ?_
   have hF:=ob hF;obtain⟨x7,e8,hF⟩:=hF
   have le8:=ZD e8
   have w9:IntKind.i64.wrap ((i:Int)+1)=(i:Int)+1:=ZB (by omega) (by omega)
   repeat first|refine cg ?_|simp -dsimp[h2,z4,↓e5,↓e8,w9]
   refine Again.go _ ?_ ((ih_f19 a (out.set i v) (i+1) o hF) _ rfl _ hq)
   exact(Gh.to3 (by simp) (by first|simp -dsimp[h2,z4,↓e5,↓e8,w9];done|simp_all))
  ·have z4:¬((i:Int)<(a.length:Int)):=auz
   cases hF
   repeat first|refine cg ?_|simp -dsimp[h2,q3,z4]
   refine Leave.go _ (Gh.to3 (by simp) (by first|simp -dsimp[h2,q3,z4];done|simp_all)) hq
theorem CC.f21  :(∀(x:Tree) (most:Int) (r:Int),F.f21 x most=some r→PureCall Try.prog B 17 [.agg [li x.op,li x.clause,am PathBind.c x.binds,am cI x.path,am Branch.c x.branches,am Tree.c x.els],li most] (li r))∧
  (∀(x:Tree) (most:Int) (n11:Int) (i12:Nat) (o:Int),F.f23 x most n11 i12=some o→∀(c:Code),ZAC [1,1,1,0,1,0,0] (ZL Try.f17)=some c→∀(Q:Exit→ASt→Prop),(Q (.exit 2) ⟨[(5,li o)],[]⟩)→ALoopU Try.prog B 0 56 (hold c .mk) ⟨[(1,li most),(2,.ptr 0 0),(5,li n11),(7,li (i12:Int))],[.cells [li x.op,li x.clause,am PathBind.c x.binds,am cI x.path,am Branch.c x.branches,am Tree.c x.els]]⟩ (hold Q .mk))∧
  (∀(x:Tree) (most:Int) (n:Int) (i:Nat) (o:Int),F.f22 x most n i=some o→∀(c:Code),ZAC [1,1,0,1,0,0] (ZL Try.f17)=some c→∀(Q:Exit→ASt→Prop),(Q (.exit 0) ⟨[(1,li most),(2,.ptr 0 0),(5,li o)],[.cells [li x.op,li x.clause,am PathBind.c x.binds,am cI x.path,am Branch.c x.branches,am Tree.c x.els]]⟩)→ALoopU Try.prog B 0 56 (hold c .mk) ⟨[(1,li most),(2,.ptr 0 0),(5,li n),(6,li (i:Int))],[.cells [li x.op,li x.clause,am PathBind.c x.binds,am cI x.path,am Branch.c x.branches,am Tree.c x.els]]⟩ (hold Q .mk)):=by
 refine F.f21.mutual_partial_correctness 
  _ _ _
  ?_ ?_ ?_
 ·intro _f_f23 _f_f22 ih_f23 ih_f22 x most r hF
  refine PureCall.enterLe Try.func17 (by kernel_rfl) rfl Try.ntmps17 (by simp) (by simp) ?_
  repeat first|refine cg ?_|simp -dsimp
  have hF:=ob hF;obtain⟨o',ho10,hF⟩:=hF
  refine ALoop.goU _ ?_ ((ih_f22 x most 1 0 o' ho10) _ rfl _ ?_)
  ·exact(Gh.to3 (by simp) (by simp -dsimp))
  repeat first|refine cg ?_|simp -dsimp
  have hF:=ob hF;obtain⟨o'24,ho23,hF⟩:=hF
  refine ALoop.goU _ ?_ ((ih_f23 x most o' 0 o'24 ho23) _ rfl _ ?_)
  ·exact(Gh.to3 (by simp) (by simp -dsimp))
  cases hF
  repeat first|refine cg ?_|simp -dsimp
  all_goals(try first|omega|rfl)
 ·intro _f_f21 _f_f23 ih_f21 ih_f23 x most n11 i12 o hF
  intro c hc Q hq
  obtain rfl:c=_:=ZS hc rfl
  refine ALoopU.know fun hk hs=> ?_
  have d0:=hs 0 _ rfl
  simp -dsimp[Blk.bnd]at d0
  clear hk hs
  refine ALoopU.enter ?_
  repeat first|refine cg ?_|simp -dsimp
  revert hF;refine abr.sp ?_ ?_<;>intro h13 q14 hF
  ·have z15:((i12:Int)<(x.els.length:Int)):=auz
   repeat first|refine cg ?_|simp -dsimp[h13,z15]
   revert hF;refine abr.sp ?_ ?_<;>intro h16 q17 hF
   ·have hF:=ob hF;obtain⟨x18,e19,hF⟩:=hF
    have le19:=ZD e19
    repeat first|refine cg ?_|simp -dsimp[h13,z15,h16,↓e19]
    have hF:=ob hF;obtain⟨v20,e21,hF⟩:=hF
    refine((ih_f21 x18 (IntKind.i64.wrap (most-n11)) v20 e21)).goW (by first|simp[h13,z15,h16,↓e19];done|simp_all) (by simp) ?_
    have w22:IntKind.i64.wrap ((i12:Int)+1)=(i12:Int)+1:=ZB (by omega) (by omega)
    repeat first|refine cg ?_|simp -dsimp[h13,z15,h16,↓e19,w22]
    refine Again.go _ ?_ ((ih_f23 x most (IntKind.i64.wrap (n11+v20)) (i12+1) o hF) _ rfl _ hq)
    exact(Gh.to3 (by simp) (by first|simp -dsimp[h13,z15,h16,↓e19,w22];done|simp_all))
   ·cases hF
    repeat first|refine cg ?_|simp -dsimp[h13,z15,h16,q17]
    refine Leave.go _ (Gh.to3 (by simp) (by first|simp -dsimp[h13,z15,h16,q17];done|simp_all)) hq
  ·have z15:¬((i12:Int)<(x.els.length:Int)):=auz
   cases hF
   repeat first|refine cg ?_|simp -dsimp[h13,q14,z15]
   refine Leave.go _ (Gh.to3 (by simp) (by first|simp -dsimp[h13,q14,z15];done|simp_all)) hq
 ·intro _f_f21 _f_f22 ih_f21 ih_f22 x most n i o hF
  intro c hc Q hq
  obtain rfl:c=_:=ZS hc rfl
  refine ALoopU.know fun hk hs=> ?_
  have d0:=hs 0 _ rfl
  simp -dsimp[Blk.bnd]at d0
  clear hk hs
  refine ALoopU.enter ?_
  repeat first|refine cg ?_|simp -dsimp
  revert hF;refine abr.sp ?_ ?_<;>intro h1 q2 hF
  ·have z3:((i:Int)<(x.branches.length:Int)):=auz
   repeat first|refine cg ?_|simp -dsimp[h1,z3]
   revert hF;refine abr.sp ?_ ?_<;>intro h4 q5 hF
   ·have hF:=ob hF;obtain⟨x6,e7,hF⟩:=hF
    have le7:=ZD e7
    repeat first|refine cg ?_|simp -dsimp[h1,z3,h4,↓e7]
    have hF:=ob hF;obtain⟨v,e8,hF⟩:=hF
    refine((ih_f21 x6.tree (IntKind.i64.wrap (most-n)) v e8)).goW (by first|simp[h1,z3,h4,↓e7];done|simp_all) (by simp) ?_
    have w9:IntKind.i64.wrap ((i:Int)+1)=(i:Int)+1:=ZB (by omega) (by omega)
    repeat first|refine cg ?_|simp -dsimp[h1,z3,h4,↓e7,w9]
    refine Again.go _ ?_ ((ih_f22 x most (IntKind.i64.wrap (n+v)) (i+1) o hF) _ rfl _ hq)
    exact(Gh.to3 (by simp) (by first|simp -dsimp[h1,z3,h4,↓e7,w9];done|simp_all))
   ·cases hF
    repeat first|refine cg ?_|simp -dsimp[h1,z3,h4,q5]
    refine Leave.go _ (Gh.to3 (by simp) (by first|simp -dsimp[h1,z3,h4,q5];done|simp_all)) hq
  ·have z3:¬((i:Int)<(x.branches.length:Int)):=auz
   cases hF
   repeat first|refine cg ?_|simp -dsimp[h1,q2,z3]
   refine Leave.go _ (Gh.to3 (by simp) (by first|simp -dsimp[h1,q2,z3];done|simp_all)) hq
theorem CC.f24  :(∀(x:Tree) (r:Bool),F.f24 x=some r→PureCall Try.prog B 18 [.agg [li x.op,li x.clause,am PathBind.c x.binds,am cI x.path,am Branch.c x.branches,am Tree.c x.els]] (.lit (.bool r)))∧
  (∀(x:Tree) (i:Nat) (o:Lo Bool Unit),F.f25 x i=some o→∀(c:Code),ZAC [1,1,0,1,0,0] (ZL Try.f18)=some c→∀(Q:Exit→ASt→Prop),o.post (fun r=>∀st,ZBb Try.prog Try.f18 (fun r' _=>r'.le (.lit (.bool r))) .ret st→Q .ret st) (fun s=>Q (.exit 0) ⟨[(1,.ptr 0 0)],[.cells [li x.op,li x.clause,am PathBind.c x.binds,am cI x.path,am Branch.c x.branches,am Tree.c x.els]]⟩)→ALoopU Try.prog B 0 50 (hold c .mk) ⟨[(1,.ptr 0 0),(3,li (i:Int))],[.cells [li x.op,li x.clause,am PathBind.c x.binds,am cI x.path,am Branch.c x.branches,am Tree.c x.els]]⟩ (hold Q .mk)):=by
 refine F.f24.mutual_partial_correctness 
  _ _
  ?_ ?_
 ·intro _f_f24 _f_f25 ih_f24 ih_f25 x r hF
  refine PureCall.enterLe Try.func18 (by kernel_rfl) rfl Try.ntmps18 (by simp) (by simp) ?_
  repeat first|refine cg ?_|simp -dsimp
  revert hF;refine abr.ns ?_ ?_<;>intro h1 q2 hF
  ·repeat first|refine cg ?_|simp -dsimp[h1,q2]
   revert hF;refine abr.ns ?_ ?_<;>intro h3 q4 hF
   ·repeat first|refine cg ?_|simp -dsimp[h1,q2,h3,q4]
    revert hF;refine abr.ns ?_ ?_<;>intro h5 q6 hF
    ·have z7:¬(1<(x.els.length:Int)):=auz
     repeat first|refine cg ?_|simp -dsimp[h1,q2,h3,q4,h5,q6,z7]
     revert hF;refine abr.sp ?_ ?_<;>intro h8 q9 hF
     ·have z10:(10<(x.branches.length:Int)):=auz
      cases hF
      repeat first|refine cg ?_|simp -dsimp[h1,q2,h3,q4,h5,q6,z7,h8,z10]
      all_goals(try first|omega|rfl)
     ·have z10:¬(10<(x.branches.length:Int)):=auz
      repeat first|refine cg ?_|simp -dsimp[h1,q2,h3,q4,h5,q6,z7,h8,q9,z10]
      have hF:=ob hF;obtain⟨o',ho20,hF⟩:=hF
      refine ALoop.goU _ ?_ ((ih_f25 x 0 o' ho20) _ rfl _ ?_)
      ·exact(Gh.to3 (by simp) (by first|simp -dsimp[h1,q2,h3,q4,h5,q6,z7,h8,q9,z10];done|simp_all))
      rcases o' with r0|sx
      ·dsimp only at hF
       cases hF
       intro st h
       simpa using h
      ·dsimp only at hF
       repeat first|refine cg ?_|simp -dsimp
       revert hF;refine abr.ns ?_ ?_<;>intro h21 q22 hF
       ·have z23:¬((x.els.length:Int)=0):=auz
        have hF:=ob hF;obtain⟨x24,e25,hF⟩:=hF
        have le25:=ZD e25
        repeat first|refine cg ?_|simp -dsimp[h21,q22,z23,↓e25]
        have hF:=ob hF;obtain⟨v26,e27,hF⟩:=hF
        refine((ih_f24 x24 v26 e27)).goW (by first|simp[h21,q22,z23,↓e25];done|simp_all) (by simp) ?_
        cases hF
        repeat first|refine cg ?_|simp -dsimp[h21,q22,z23,↓e25]
        all_goals(try first|omega|rfl)
       ·have z23:((x.els.length:Int)=0):=auz
        cases hF
        repeat first|refine cg ?_|simp -dsimp[h21,q22,z23]
        all_goals(try first|omega|rfl)
    ·have z7:(1<(x.els.length:Int)):=auz
     cases hF
     repeat first|refine cg ?_|simp -dsimp[h1,q2,h3,q4,h5,q6,z7]
     all_goals(try first|omega|rfl)
   ·cases hF
    repeat first|refine cg ?_|simp -dsimp[h1,q2,h3,q4]
    all_goals(try first|omega|rfl)
  ·cases hF
   repeat first|refine cg ?_|simp -dsimp[h1,q2]
   all_goals(try first|omega|rfl)
 ·intro _f_f24 _f_f25 ih_f24 ih_f25 x i o hF
  intro c hc Q hq
  obtain rfl:c=_:=ZS hc rfl
  refine ALoopU.know fun hk hs=> ?_
  have d0:=hs 0 _ rfl
  simp -dsimp[Blk.bnd]at d0
  clear hk hs
  refine ALoopU.enter ?_
  repeat first|refine cg ?_|simp -dsimp
  revert hF;refine abr.sp ?_ ?_<;>intro h11 q12 hF
  ·have z13:((i:Int)<(x.branches.length:Int)):=auz
   have hF:=ob hF;obtain⟨x14,e15,hF⟩:=hF
   have le15:=ZD e15
   repeat first|refine cg ?_|simp -dsimp[h11,z13,↓e15]
   have hF:=ob hF;obtain⟨v,e16,hF⟩:=hF
   refine((ih_f24 x14.tree v e16)).goW (by first|simp[h11,z13,↓e15];done|simp_all) (by simp) ?_
   repeat first|refine cg ?_|simp -dsimp[h11,z13,↓e15]
   revert hF;refine abr.ns (fun h17 q18 hF=> ?_) (fun h17 q18 hF=> ?_)
   ·cases hF
    repeat first|refine cg ?_|simp -dsimp[h11,z13,↓e15,h17,q18]
    refine Leave.go _ (Gh.refl _) (hq _ ?_)
    repeat first|refine cg ?_|simp -dsimp[h11,z13,↓e15,h17,q18]
   ·have w19:IntKind.i64.wrap ((i:Int)+1)=(i:Int)+1:=ZB (by omega) (by omega)
    repeat first|refine cg ?_|simp -dsimp[h11,z13,↓e15,h17,q18,w19]
    refine Again.go _ ?_ ((ih_f25 x (i+1) o hF) _ rfl _ hq)
    exact(Gh.to3 (by simp) (by first|simp -dsimp[h11,z13,↓e15,h17,q18,w19];done|simp_all))
  ·have z13:¬((i:Int)<(x.branches.length:Int)):=auz
   cases hF
   repeat first|refine cg ?_|simp -dsimp[h11,q12,z13]
   refine Leave.go _ (Gh.to3 (by simp) (by first|simp -dsimp[h11,q12,z13];done|simp_all)) hq
theorem CC.f26 (list:List PathBind):(∀(out:List PathBind) (i:Nat) (o:List PathBind),F.f26 list out i=some o→∀(c:Code),ZAC [1,1,0,1,0,0] (ZL Try.f42)=some c→∀(Q:Exit→ASt→Prop),(Q (.exit 0) ⟨[(3,.own 0 (List.length (α:=PathBind) o))],[.elems 2 (List.map PathBind.c o)]⟩)→ALoopU Try.prog B 0 29 (hold c .mk) ⟨[(0,am PathBind.c list),(3,.own 0 (List.length (α:=PathBind) out)),(4,li (i:Int))],[.elems 2 (List.map PathBind.c out)]⟩ (hold Q .mk)):=by
 refine F.f26.partial_correctness list
  _
  ?_
 ·intro _f_f26 ih_f26 out i o hF
  intro c hc Q hq
  obtain rfl:c=_:=ZS hc rfl
  refine ALoopU.know fun hk hs=> ?_
  have b0:=hk 0
  simp -dsimp at b0
  have d0:=hs 0 _ rfl
  simp -dsimp[Blk.bnd]at d0
  clear hk hs
  refine ALoopU.enter ?_
  repeat first|refine cg ?_|simp -dsimp
  revert hF;refine abr.sp ?_ ?_<;>intro h1 q2 hF
  ·have z3:((i:Int)<(list.length:Int)):=auz
   repeat first|refine cg ?_|simp -dsimp[h1,z3]
   refine ADraw.eff [1000081] [(0,4),(0,2),(0,2),(0,2),(0,2),(0,2),(0,5),(0,1),(0,1),(0,1),(0,1),(0,1),(0,5),(0,5),(0,5),(0,5),(5,5)] [1,1,1,0,0,0,1,1,1,0,0,0,1,1,1,1,1] follows (by kernel_rfl) (by kernel_rfl) (by kernel_rfl) ?_
   have hF:=ob hF;obtain⟨x,e4,hF⟩:=hF
   have le4:=ZD e4
   have hF:=oc hF;obtain⟨c5,hF⟩:=hF
   have hF:=oc hF;obtain⟨c6,hF⟩:=hF
   have w7:IntKind.i64.wrap ((i:Int)+1)=(i:Int)+1:=ZB (by omega) (by omega)
   repeat first|refine cg ?_|simp -dsimp[h1,z3,↓e4,w7]
   refine Again.go _ ?_ ((ih_f26 (out++[x]) (i+1) o hF) _ rfl _ hq)
   exact(Gh.to3 (by simp) (by first|simp -dsimp[h1,z3,↓e4,w7];done|simp_all))
  ·have z3:¬((i:Int)<(list.length:Int)):=auz
   cases hF
   repeat first|refine cg ?_|simp -dsimp[h1,q2,z3]
   refine Leave.go _ (Gh.to3 (by simp) (by first|simp -dsimp[h1,q2,z3];done|simp_all)) hq
theorem C.f27 (list:List PathBind)(r:List PathBind)(hF:F.f27 list=some r):PureCall Try.prog B 42 [am PathBind.c list] (am PathBind.c r):=by
 unfold F.f27 at hF
 refine PureCall.enterLe Try.func42 (by kernel_rfl) rfl Try.ntmps42 (by simp) (by simp) ?_
 repeat first|refine cg ?_|simp -dsimp
 have hF:=ob hF;obtain⟨o',ho8,hF⟩:=hF
 refine ALoop.goU _ ?_ (((CC.f26 B hB1 hB2 list) [] 0 o' ho8) _ rfl _ ?_)
 ·exact(Gh.to3 (by simp) (by simp -dsimp))
 cases hF
 repeat first|refine cg ?_|simp -dsimp
 all_goals(try first|omega|rfl)
theorem C.f28  (r:Int)(hF:F.f28=some r):PureCall Try.prog B 43 [] (li r):=by
 unfold F.f28 at hF
 refine PureCall.enterLe Try.func43 (by kernel_rfl) rfl Try.ntmps43 (by simp) (by simp) ?_
 cases hF
 repeat first|refine cg ?_|simp -dsimp
 all_goals(try first|omega|rfl)
theorem CC.f29 (a:List Int)(b:List Int):(∀(i:Nat) (o:Lo Bool Unit),F.f29 a b i=some o→∀(c:Code),ZAC [1,1,0,1,0,0] (ZL Try.f60)=some c→∀(Q:Exit→ASt→Prop),o.post (fun r=>∀st,ZBb Try.prog Try.f60 (fun r' _=>r'.le (.lit (.bool r))) .ret st→Q .ret st) (fun s=>Q (.exit 0) ⟨[],[]⟩)→ALoopU Try.prog B 0 26 (hold c .mk) ⟨[(0,am cI a),(1,am cI b),(5,li (i:Int))],[]⟩ (hold Q .mk)):=by
 refine F.f29.partial_correctness a b
  _
  ?_
 ·intro _f_f29 ih_f29 i o hF
  intro c hc Q hq
  obtain rfl:c=_:=ZS hc rfl
  refine ALoopU.know fun hk hs=> ?_
  have b0:=hk 0
  simp -dsimp at b0
  have b1:=hk 1
  simp -dsimp at b1
  clear hk hs
  refine ALoopU.enter ?_
  repeat first|refine cg ?_|simp -dsimp
  revert hF;refine abr.sp ?_ ?_<;>intro h4 q5 hF
  ·have z6:((i:Int)<(a.length:Int)):=auz
   repeat first|refine cg ?_|simp -dsimp[h4,z6]
   refine ADraw.simple follows (by kernel_rfl) (by kernel_rfl) ?_
   have hF:=ob hF;obtain⟨x,e7,hF⟩:=hF
   have le7:=ZD e7
   have hF:=ob hF;obtain⟨x8,e9,hF⟩:=hF
   have le9:=ZD e9
   repeat first|refine cg ?_|simp -dsimp[h4,z6,↓e7,↓e9]
   revert hF;refine abr.ns ?_ ?_<;>intro h10 q11 hF
   ·cases hF
    repeat first|refine cg ?_|simp -dsimp[h4,z6,↓e7,↓e9,h10,q11]
    refine Leave.go _ (Gh.refl _) (hq _ ?_)
    repeat first|refine cg ?_|simp -dsimp[h4,z6,↓e7,↓e9,h10,q11]
   ·have w12:IntKind.i64.wrap ((i:Int)+1)=(i:Int)+1:=ZB (by omega) (by omega)
    repeat first|refine cg ?_|simp -dsimp[h4,z6,↓e7,↓e9,h10,q11,w12]
    refine Again.go _ ?_ ((ih_f29 (i+1) o hF) _ rfl _ hq)
    exact(Gh.to3 (by simp) (by first|simp -dsimp[h4,z6,↓e7,↓e9,h10,q11,w12];done|simp_all))
  ·have z6:¬((i:Int)<(a.length:Int)):=auz
   cases hF
   repeat first|refine cg ?_|simp -dsimp[h4,q5,z6]
   refine Leave.go _ (Gh.to3 (by simp) (by first|simp -dsimp[h4,q5,z6];done|simp_all)) hq
theorem C.f30 (a:List Int)(b:List Int)(r:Bool)(hF:F.f30 a b=some r):PureCall Try.prog B 60 [am cI a,am cI b] (.lit (.bool r)):=by
 unfold F.f30 at hF
 refine PureCall.enterLe Try.func60 (by kernel_rfl) rfl Try.ntmps60 (by simp) (by simp) ?_
 repeat first|refine cg ?_|simp -dsimp
 revert hF;refine abr.ns ?_ ?_<;>intro h1 q2 hF
 ·have z3:¬((a.length:Int)=(b.length:Int)):=auz
  cases hF
  repeat first|refine cg ?_|simp -dsimp[h1,q2,z3]
  all_goals(try first|omega|rfl)
 ·have z3:((a.length:Int)=(b.length:Int)):=auz
  repeat first|refine cg ?_|simp -dsimp[h1,q2,z3]
  have hF:=ob hF;obtain⟨o',ho13,hF⟩:=hF
  refine ALoop.goU _ ?_ (((CC.f29 B hB1 hB2 a b) 0 o' ho13) _ rfl _ ?_)
  ·exact(Gh.to3 (by simp) (by first|simp -dsimp[h1,q2,z3];done|simp_all))
  rcases o' with r0|sx
  ·dsimp only at hF
   cases hF
   intro st h
   simpa using h
  ·dsimp only at hF
   cases hF
   repeat first|refine cg ?_|simp -dsimp
   all_goals(try first|omega|rfl)
theorem CC.f31 (a:List PathBind)(b:List PathBind):(∀(i:Nat) (o:Lo Bool Unit),F.f31 a b i=some o→∀(c:Code),ZAC [1,1,0,1,0,0] (ZL Try.f59)=some c→∀(Q:Exit→ASt→Prop),o.post (fun r=>∀st,ZBb Try.prog Try.f59 (fun r' _=>r'.le (.lit (.bool r))) .ret st→Q .ret st) (fun s=>Q (.exit 0) ⟨[],[]⟩)→ALoopU Try.prog B 0 42 (hold c .mk) ⟨[(0,am PathBind.c a),(1,am PathBind.c b),(5,li (i:Int))],[]⟩ (hold Q .mk)):=by
 refine F.f31.partial_correctness a b
  _
  ?_
 ·intro _f_f31 ih_f31 i o hF
  intro c hc Q hq
  obtain rfl:c=_:=ZS hc rfl
  refine ALoopU.know fun hk hs=> ?_
  have b0:=hk 0
  simp -dsimp at b0
  have b1:=hk 1
  simp -dsimp at b1
  clear hk hs
  refine ALoopU.enter ?_
  repeat first|refine cg ?_|simp -dsimp
  revert hF;refine abr.sp ?_ ?_<;>intro h4 q5 hF
  ·have z6:((i:Int)<(a.length:Int)):=auz
   repeat first|refine cg ?_|simp -dsimp[h4,z6]
   refine ADraw.simple follows (by kernel_rfl) (by kernel_rfl) ?_
   have hF:=ob hF;obtain⟨x,e7,hF⟩:=hF
   have le7:=ZD e7
   have hF:=ob hF;obtain⟨x8,e9,hF⟩:=hF
   have le9:=ZD e9
   repeat first|refine cg ?_|simp -dsimp[h4,z6,↓e7,↓e9]
   revert hF;refine abr.sp ?_ ?_<;>intro h10 q11 hF
   ·repeat first|refine cg ?_|simp -dsimp[h4,z6,↓e7,↓e9,h10]
    have hF:=ob hF;obtain⟨v,e12,hF⟩:=hF
    refine((C.f30 B hB1 hB2 x.path x8.path v e12)).pgoW (by first|simp[h4,z6,↓e7,↓e9,h10];done|simp_all) (by simp) ?_
    repeat first|refine cg ?_|simp -dsimp[h4,z6,↓e7,↓e9,h10]
    revert hF;refine abr.ns (fun h13 q14 hF=> ?_) (fun h13 q14 hF=> ?_)
    ·cases hF
     repeat first|refine cg ?_|simp -dsimp[h4,z6,↓e7,↓e9,h10,h13,q14]
     refine Leave.go _ (Gh.refl _) (hq _ ?_)
     repeat first|refine cg ?_|simp -dsimp[h4,z6,↓e7,↓e9,h10,h13,q14]
    ·have w15:IntKind.i64.wrap ((i:Int)+1)=(i:Int)+1:=ZB (by omega) (by omega)
     repeat first|refine cg ?_|simp -dsimp[h4,z6,↓e7,↓e9,h10,h13,q14,w15]
     refine Again.go _ ?_ ((ih_f31 (i+1) o hF) _ rfl _ hq)
     exact(Gh.to3 (by simp) (by first|simp -dsimp[h4,z6,↓e7,↓e9,h10,h13,q14,w15];done|simp_all))
   ·cases hF
    repeat first|refine cg ?_|simp -dsimp[h4,z6,↓e7,↓e9,h10,q11]
    refine Leave.go _ (Gh.refl _) (hq _ ?_)
    repeat first|refine cg ?_|simp -dsimp[h4,z6,↓e7,↓e9,h10,q11]
  ·have z6:¬((i:Int)<(a.length:Int)):=auz
   cases hF
   repeat first|refine cg ?_|simp -dsimp[h4,q5,z6]
   refine Leave.go _ (Gh.to3 (by simp) (by first|simp -dsimp[h4,q5,z6];done|simp_all)) hq
theorem C.f32 (a:List PathBind)(b:List PathBind)(r:Bool)(hF:F.f32 a b=some r):PureCall Try.prog B 59 [am PathBind.c a,am PathBind.c b] (.lit (.bool r)):=by
 unfold F.f32 at hF
 refine PureCall.enterLe Try.func59 (by kernel_rfl) rfl Try.ntmps59 (by simp) (by simp) ?_
 repeat first|refine cg ?_|simp -dsimp
 revert hF;refine abr.ns ?_ ?_<;>intro h1 q2 hF
 ·have z3:¬((a.length:Int)=(b.length:Int)):=auz
  cases hF
  repeat first|refine cg ?_|simp -dsimp[h1,q2,z3]
  all_goals(try first|omega|rfl)
 ·have z3:((a.length:Int)=(b.length:Int)):=auz
  repeat first|refine cg ?_|simp -dsimp[h1,q2,z3]
  have hF:=ob hF;obtain⟨o',ho16,hF⟩:=hF
  refine ALoop.goU _ ?_ (((CC.f31 B hB1 hB2 a b) 0 o' ho16) _ rfl _ ?_)
  ·exact(Gh.to3 (by simp) (by first|simp -dsimp[h1,q2,z3];done|simp_all))
  rcases o' with r0|sx
  ·dsimp only at hF
   cases hF
   intro st h
   simpa using h
  ·dsimp only at hF
   cases hF
   repeat first|refine cg ?_|simp -dsimp
   all_goals(try first|omega|rfl)
theorem CC.f33 (a:Vl.Node)(b:Vl.Node):(∀(i:Nat) (o:Lo Bool Unit),F.f33 a b i=some o→∀(c:Code),ZAC [1,1,0,1,0,0] (ZL Try.f44)=some c→∀(Q:Exit→ASt→Prop),o.post (fun r=>∀st,ZBb Try.prog Try.f44 (fun r' _=>r'.le (.lit (.bool r))) .ret st→Q .ret st) (fun s=>Q (.exit 0) ⟨[],[]⟩)→ALoopU Try.prog B 0 68 (hold c .mk) ⟨[(2,.ptr 0 0),(3,.ptr 1 0),(5,li (i:Int))],[.cells [li a.op,li a.clause,am PathBind.c a.binds,am cI a.path,am Vl.Edge.c a.edges,li a.els],.cells [li b.op,li b.clause,am PathBind.c b.binds,am cI b.path,am Vl.Edge.c b.edges,li b.els]]⟩ (hold Q .mk)):=by
 refine F.f33.partial_correctness a b
  _
  ?_
 ·intro _f_f33 ih_f33 i o hF
  intro c hc Q hq
  obtain rfl:c=_:=ZS hc rfl
  refine ALoopU.know fun hk hs=> ?_
  have d0:=hs 0 _ rfl
  simp -dsimp[Blk.bnd]at d0
  have d1:=hs 1 _ rfl
  simp -dsimp[Blk.bnd]at d1
  clear hk hs
  refine ALoopU.enter ?_
  repeat first|refine cg ?_|simp -dsimp
  revert hF;refine abr.sp ?_ ?_<;>intro h17 q18 hF
  ·have z19:((i:Int)<(a.edges.length:Int)):=auz
   repeat first|refine cg ?_|simp -dsimp[h17,z19]
   refine ADraw.simple follows (by kernel_rfl) (by kernel_rfl) ?_
   have hF:=ob hF;obtain⟨x,e20,hF⟩:=hF
   have le20:=ZD e20
   have hF:=ob hF;obtain⟨x21,e22,hF⟩:=hF
   have le22:=ZD e22
   repeat first|refine cg ?_|simp -dsimp[h17,z19,↓e20,↓e22]
   revert hF;refine abr.ns (fun h23 q24 hF=> ?_) (fun h23 q24 hF=> ?_)
   ·cases hF
    repeat first|refine cg ?_|simp -dsimp[h17,z19,↓e20,↓e22,h23,q24]
    refine Leave.go _ (Gh.refl _) (hq _ ?_)
    repeat first|refine cg ?_|simp -dsimp[h17,z19,↓e20,↓e22,h23,q24]
   ·have w25:IntKind.i64.wrap ((i:Int)+1)=(i:Int)+1:=ZB (by omega) (by omega)
    repeat first|refine cg ?_|simp -dsimp[h17,z19,↓e20,↓e22,h23,q24,w25]
    refine Again.go _ ?_ ((ih_f33 (i+1) o hF) _ rfl _ hq)
    exact(Gh.to3 (by simp) (by first|simp -dsimp[h17,z19,↓e20,↓e22,h23,q24,w25];done|simp_all))
  ·have z19:¬((i:Int)<(a.edges.length:Int)):=auz
   cases hF
   repeat first|refine cg ?_|simp -dsimp[h17,q18,z19]
   refine Leave.go _ (Gh.to3 (by simp) (by first|simp -dsimp[h17,q18,z19];done|simp_all)) hq
theorem C.f34 (a:Vl.Node)(b:Vl.Node)(r:Bool)(hF:F.f34 a b=some r):PureCall Try.prog B 44 [.agg [li a.op,li a.clause,am PathBind.c a.binds,am cI a.path,am Vl.Edge.c a.edges,li a.els],.agg [li b.op,li b.clause,am PathBind.c b.binds,am cI b.path,am Vl.Edge.c b.edges,li b.els]] (.lit (.bool r)):=by
 unfold F.f34 at hF
 refine PureCall.enterLe Try.func44 (by kernel_rfl) rfl Try.ntmps44 (by simp) (by simp) ?_
 repeat first|refine cg ?_|simp -dsimp
 revert hF;refine abr.sp ?_ ?_<;>intro h1 q2 hF
 ·repeat first|refine cg ?_|simp -dsimp[h1]
  revert hF;refine abr.sp ?_ ?_<;>intro h3 q4 hF
  ·repeat first|refine cg ?_|simp -dsimp[h1,h3]
   revert hF;refine abr.sp ?_ ?_<;>intro h5 q6 hF
   ·repeat first|refine cg ?_|simp -dsimp[h1,h3,h5]
    have hF:=ob hF;obtain⟨v,e7,hF⟩:=hF
    refine((C.f32 B hB1 hB2 a.binds b.binds v e7)).goW (by first|simp[h1,h3,h5];done|simp_all) (by simp) ?_
    repeat first|refine cg ?_|simp -dsimp[h1,h3,h5]
    revert hF;refine abr.sp (fun h8 q9 hF=> ?_) (fun h8 q9 hF=> ?_)
    ·repeat first|refine cg ?_|simp -dsimp[h1,h3,h5,h8]
     have hF:=ob hF;obtain⟨v10,e11,hF⟩:=hF
     refine((C.f30 B hB1 hB2 a.path b.path v10 e11)).goW (by first|simp[h1,h3,h5,h8];done|simp_all) (by simp) ?_
     repeat first|refine cg ?_|simp -dsimp[h1,h3,h5,h8]
     revert hF;refine abr.sp (fun h12 q13 hF=> ?_) (fun h12 q13 hF=> ?_)
     ·repeat first|refine cg ?_|simp -dsimp[h1,h3,h5,h8,h12]
      revert hF;refine abr.ns ?_ ?_<;>intro h14 q15 hF
      ·have z16:¬((a.edges.length:Int)=(b.edges.length:Int)):=auz
       cases hF
       repeat first|refine cg ?_|simp -dsimp[h1,h3,h5,h8,h12,h14,q15,z16]
       all_goals(try first|omega|rfl)
      ·have z16:((a.edges.length:Int)=(b.edges.length:Int)):=auz
       repeat first|refine cg ?_|simp -dsimp[h1,h3,h5,h8,h12,h14,q15,z16]
       have hF:=ob hF;obtain⟨o',ho26,hF⟩:=hF
       refine ALoop.goU _ ?_ (((CC.f33 B hB1 hB2 a b) 0 o' ho26) _ rfl _ ?_)
       ·exact(Gh.to3 (by simp) (by first|simp -dsimp[h1,h3,h5,h8,h12,h14,q15,z16];done|simp_all))
       rcases o' with r0|sx
       ·dsimp only at hF
        cases hF
        intro st h
        simpa using h
       ·dsimp only at hF
        cases hF
        repeat first|refine cg ?_|simp -dsimp
        all_goals(try first|omega|rfl)
     ·cases hF
      repeat first|refine cg ?_|simp -dsimp[h1,h3,h5,h8,h12,q13]
      all_goals(try first|omega|rfl)
    ·cases hF
     repeat first|refine cg ?_|simp -dsimp[h1,h3,h5,h8,q9]
     all_goals(try first|omega|rfl)
   ·cases hF
    repeat first|refine cg ?_|simp -dsimp[h1,h3,h5,q6]
    all_goals(try first|omega|rfl)
  ·cases hF
   repeat first|refine cg ?_|simp -dsimp[h1,h3,q4]
   all_goals(try first|omega|rfl)
 ·cases hF
  repeat first|refine cg ?_|simp -dsimp[h1,q2]
  all_goals(try first|omega|rfl)
theorem CC.f35 (x:Tree)(v:List PathBind)(o':(List Vl.Edge)×(List Vl.Node))(v21:(List Vl.Node)×Int):(∀(i23:Nat) (o:Lo ((List Vl.Node)×Int) Unit),F.f35 x v o' v21 i23=some o→∀(c:Code),ZAC [1,1,1,1,0,1,0,0] (ZL Try.f19)=some c→∀(Q:Exit→ASt→Prop),o.post (fun r=>∀st,ZGV Try.prog Try.f19 (hold (fun r' σ'=>r'.le (.tup [.own 0 (List.length (α:=Vl.Node) r.1),li r.2])∧ZEU σ' [.elems 6 (List.map Vl.Node.c r.1)]) .mk) .ret st→Q .ret st) (fun s=>Q (.exit 2) ⟨[(0,.own 0 (List.length (α:=Vl.Node) v21.1)),(6,.ptr 3 0)],[.elems 6 (List.map Vl.Node.c v21.1),.dead,.dead,.cells [li x.op,li x.clause,am PathBind.c v,am cI x.path,.own 4 (List.length (α:=Vl.Edge) o'.1),li v21.2],.elems 4 (List.map Vl.Edge.c o'.1)]⟩)→ALoopU Try.prog B 1 106 (hold c .mk) ⟨[(0,.own 0 (List.length (α:=Vl.Node) v21.1)),(6,.ptr 3 0),(12,li (i23:Int))],[.elems 6 (List.map Vl.Node.c v21.1),.dead,.dead,.cells [li x.op,li x.clause,am PathBind.c v,am cI x.path,.own 4 (List.length (α:=Vl.Edge) o'.1),li v21.2],.elems 4 (List.map Vl.Edge.c o'.1)]⟩ (hold Q .mk)):=by
 refine F.f35.partial_correctness x v o' v21
  _
  ?_
 ·intro _f_f35 ih_f35 i23 o hF
  intro c hc Q hq
  obtain rfl:c=_:=ZS hc rfl
  refine ALoopU.know fun hk hs=> ?_
  have d0:=hs 0 _ rfl
  simp -dsimp[Blk.bnd]at d0
  have d3:=hs 3 _ rfl
  simp -dsimp[Blk.bnd]at d3
  have d4:=hs 4 _ rfl
  simp -dsimp[Blk.bnd]at d4
  clear hk hs
  refine ALoopU.enter ?_
  repeat first|refine cg ?_|simp -dsimp
  revert hF;refine abr.sp ?_ ?_<;>intro h24 q25 hF
  ·have z26:((i23:Int)<(v21.1.length:Int)):=auz
   repeat first|refine cg ?_|simp -dsimp[h24,z26]
   refine ADraw.eff [44] [(0,0),(0,0),(0,0),(0,0),(0,0),(0,1)] [1,1,1,1,1,1] follows (by kernel_rfl) (by kernel_rfl) (by kernel_rfl) ?_
   have hF:=ob hF;obtain⟨x27,e28,hF⟩:=hF
   have le28:=ZD e28
   repeat first|refine cg ?_|simp -dsimp[h24,z26,↓e28]
   have hF:=ob hF;obtain⟨v29,e30,hF⟩:=hF
   refine((C.f34 B hB1 hB2 x27 (⟨x.op,x.clause,v,x.path,o'.1,v21.2⟩:Vl.Node) v29 e30)).elend (by first|simp -dsimp[h24,z26,↓e28];done|simp_all) (by simp -dsimp) ?_
   repeat first|refine cg ?_|simp -dsimp[h24,z26,↓e28]
   revert hF;refine abr.sp (fun h31 q32 hF=> ?_) (fun h31 q32 hF=> ?_)
   ·cases hF
    repeat first|refine cg ?_|simp -dsimp[h24,z26,↓e28,h31]
    refine Leave.go _ (Gh.refl _) (hq _ ?_)
    repeat first|refine cg ?_|simp -dsimp[h24,z26,↓e28,h31]
   ·have w33:IntKind.i64.wrap ((i23:Int)+1)=(i23:Int)+1:=ZB (by omega) (by omega)
    repeat first|refine cg ?_|simp -dsimp[h24,z26,↓e28,h31,q32,w33]
    refine Again.go _ ?_ ((ih_f35 (i23+1) o hF) _ rfl _ hq)
    exact(Gh.to3 (by simp) (by first|simp -dsimp[h24,z26,↓e28,h31,q32,w33];done|simp_all))
  ·have z26:¬((i23:Int)<(v21.1.length:Int)):=auz
   cases hF
   repeat first|refine cg ?_|simp -dsimp[h24,q25,z26]
   refine Leave.go _ (Gh.to3 (by simp) (by first|simp -dsimp[h24,q25,z26];done|simp_all)) hq
theorem CC.f36 (x:Tree)(v:List PathBind)(v3:Int)(o':(List Vl.Edge)×(List Vl.Node)):(∀(i37:Nat) (o:Lo ((List Vl.Node)×Int) Unit),F.f36 x v v3 o' i37=some o→∀(c:Code),ZAC [1,1,1,1,0,1,0,0] (ZL Try.f19)=some c→∀(Q:Exit→ASt→Prop),o.post (fun r=>∀st,ZGV Try.prog Try.f19 (hold (fun r' σ'=>r'.le (.tup [.own 0 (List.length (α:=Vl.Node) r.1),li r.2])∧ZEU σ' [.elems 6 (List.map Vl.Node.c r.1)]) .mk) .ret st→Q .ret st) (fun s=>Q (.exit 2) ⟨[(0,.own 0 (List.length (α:=Vl.Node) o'.2)),(6,.ptr 3 0)],[.elems 6 (List.map Vl.Node.c o'.2),.dead,.dead,.cells [li x.op,li x.clause,am PathBind.c v,am cI x.path,.own 4 (List.length (α:=Vl.Edge) o'.1),li v3],.elems 4 (List.map Vl.Edge.c o'.1)]⟩)→ALoopU Try.prog B 1 106 (hold c .mk) ⟨[(0,.own 0 (List.length (α:=Vl.Node) o'.2)),(6,.ptr 3 0),(12,li (i37:Int))],[.elems 6 (List.map Vl.Node.c o'.2),.dead,.dead,.cells [li x.op,li x.clause,am PathBind.c v,am cI x.path,.own 4 (List.length (α:=Vl.Edge) o'.1),li v3],.elems 4 (List.map Vl.Edge.c o'.1)]⟩ (hold Q .mk)):=by
 refine F.f36.partial_correctness x v v3 o'
  _
  ?_
 ·intro _f_f36 ih_f36 i37 o hF
  intro c hc Q hq
  obtain rfl:c=_:=ZS hc rfl
  refine ALoopU.know fun hk hs=> ?_
  have d0:=hs 0 _ rfl
  simp -dsimp[Blk.bnd]at d0
  have d3:=hs 3 _ rfl
  simp -dsimp[Blk.bnd]at d3
  have d4:=hs 4 _ rfl
  simp -dsimp[Blk.bnd]at d4
  clear hk hs
  refine ALoopU.enter ?_
  repeat first|refine cg ?_|simp -dsimp
  revert hF;refine abr.sp ?_ ?_<;>intro h38 q39 hF
  ·have z40:((i37:Int)<(o'.2.length:Int)):=auz
   repeat first|refine cg ?_|simp -dsimp[h38,z40]
   refine ADraw.eff [44] [(0,0),(0,0),(0,0),(0,0),(0,0),(0,1)] [1,1,1,1,1,1] follows (by kernel_rfl) (by kernel_rfl) (by kernel_rfl) ?_
   have hF:=ob hF;obtain⟨x41,e42,hF⟩:=hF
   have le42:=ZD e42
   repeat first|refine cg ?_|simp -dsimp[h38,z40,↓e42]
   have hF:=ob hF;obtain⟨v43,e44,hF⟩:=hF
   refine((C.f34 B hB1 hB2 x41 (⟨x.op,x.clause,v,x.path,o'.1,v3⟩:Vl.Node) v43 e44)).elend (by first|simp -dsimp[h38,z40,↓e42];done|simp_all) (by simp -dsimp) ?_
   repeat first|refine cg ?_|simp -dsimp[h38,z40,↓e42]
   revert hF;refine abr.sp (fun h45 q46 hF=> ?_) (fun h45 q46 hF=> ?_)
   ·cases hF
    repeat first|refine cg ?_|simp -dsimp[h38,z40,↓e42,h45]
    refine Leave.go _ (Gh.refl _) (hq _ ?_)
    repeat first|refine cg ?_|simp -dsimp[h38,z40,↓e42,h45]
   ·have w47:IntKind.i64.wrap ((i37:Int)+1)=(i37:Int)+1:=ZB (by omega) (by omega)
    repeat first|refine cg ?_|simp -dsimp[h38,z40,↓e42,h45,q46,w47]
    refine Again.go _ ?_ ((ih_f36 (i37+1) o hF) _ rfl _ hq)
    exact(Gh.to3 (by simp) (by first|simp -dsimp[h38,z40,↓e42,h45,q46,w47];done|simp_all))
  ·have z40:¬((i37:Int)<(o'.2.length:Int)):=auz
   cases hF
   repeat first|refine cg ?_|simp -dsimp[h38,q39,z40]
   refine Leave.go _ (Gh.to3 (by simp) (by first|simp -dsimp[h38,q39,z40];done|simp_all)) hq
theorem CC.f37  :(∀(list:List Vl.Node) (x:Tree) (r:(List Vl.Node)×Int),F.f37 list x=some r→BCall Try.prog B 19 [.elems 6 (List.map Vl.Node.c list)] [.own 0 (List.length (α:=Vl.Node) list),.agg [li x.op,li x.clause,am PathBind.c x.binds,am cI x.path,am Branch.c x.branches,am Tree.c x.els]] (.tup [.own 0 (List.length (α:=Vl.Node) r.1),li r.2]) [.elems 6 (List.map Vl.Node.c r.1)])∧
  (∀(x:Tree) (v:List PathBind) (v3:Int) (out:List Vl.Edge) (list5:List Vl.Node) (i:Nat) (o:(List Vl.Edge)×(List Vl.Node)),F.f38 x v v3 out list5 i=some o→∀(c:Code),ZAC [1,1,0,1,0,0] (ZL Try.f19)=some c→∀(Q:Exit→ASt→Prop),(Q (.exit 0) ⟨[(0,.own 0 (List.length (α:=Vl.Node) o.2)),(3,.ptr 1 0),(6,.ptr 3 0)],[.elems 6 (List.map Vl.Node.c o.2),.cells [li x.op,li x.clause,am PathBind.c x.binds,am cI x.path,am Branch.c x.branches,am Tree.c x.els],.dead,.cells [li x.op,li x.clause,am PathBind.c v,am cI x.path,.own 4 (List.length (α:=Vl.Edge) o.1),li v3],.elems 4 (List.map Vl.Edge.c o.1)]⟩)→ALoopU Try.prog B 1 106 (hold c .mk) ⟨[(0,.own 0 (List.length (α:=Vl.Node) list5)),(3,.ptr 1 0),(6,.ptr 3 0),(7,li (i:Int))],[.elems 6 (List.map Vl.Node.c list5),.cells [li x.op,li x.clause,am PathBind.c x.binds,am cI x.path,am Branch.c x.branches,am Tree.c x.els],.dead,.cells [li x.op,li x.clause,am PathBind.c v,am cI x.path,.own 4 (List.length (α:=Vl.Edge) out),li v3],.elems 4 (List.map Vl.Edge.c out)]⟩ (hold Q .mk)):=by
 refine F.f37.mutual_partial_correctness 
  _ _
  ?_ ?_
 ·intro _f_f37 _f_f38 ih_f37 ih_f38 list x r hF
  refine BCall.enter Try.func19 (by kernel_rfl) rfl Try.ntmps19 (by simp) rfl (by simp) (by simp) (by simp) (by simp) (by simp) (Gh.refl _) ?_
  repeat first|refine cg ?_|simp -dsimp
  refine ADraw.effL [(7,13),(10,13),(12,13)] 13 [1000060] [(0,2),(0,2),(0,2),(0,2),(0,1),(0,1),(0,5),(0,5),(0,1),(0,1),(0,5),(0,5),(0,5),(0,5),(0,5)] [0,2,0,2,0,2,1,1,0,2,1,1,1,1,1] follows (by kernel_rfl) (by kernel_rfl) (by kernel_rfl) (by kernel_rfl) (by intro d hd;cases hd;rfl) (by intro t i h k;cases h;cases k;rfl) ?_
  repeat first|refine cg ?_|simp -dsimp
  have hF:=ob hF;obtain⟨v,e1,hF⟩:=hF
  refine((C.f27 B hB1 hB2 x.binds v e1)).pgoW (by simp) (by simp) ?_
  have hF:=oc hF;obtain⟨c2,hF⟩:=hF
  repeat first|refine cg ?_|simp -dsimp
  have hF:=ob hF;obtain⟨v3,e4,hF⟩:=hF
  refine((C.f28 B hB1 hB2 v3 e4)).pgoW (by simp) (by simp) ?_
  repeat first|refine cg ?_|simp -dsimp
  have hF:=ob hF;obtain⟨o',ho15,hF⟩:=hF
  refine ALoop.goU ⟨[(0,.own 0 (List.length (α:=Vl.Node) list)),(3,.ptr 1 0),(6,.ptr 3 0),(7,.lit (.int .i64 0))],[.elems 6 (List.map Vl.Node.c list),.cells [.lit (.int .i64 x.op),.lit (.int .i64 x.clause),.arr (List.map PathBind.c x.binds),.arr (List.map cI x.path),.arr (List.map Branch.c x.branches),.arr (List.map Tree.c x.els)],.dead,.cells [.lit (.int .i64 x.op),.lit (.int .i64 x.clause),.arr (List.map PathBind.c v),.arr (List.map cI x.path),.own 4 (List.length (α:=Vl.Edge) []),.lit (.int .i64 v3)],.elems 4 (List.map Vl.Edge.c [])]⟩ (by refine Gh.trans (Gh.nilCell 3 4 4 (by simp -dsimp;rfl) (by simp -dsimp)) ?_;exact(Gh.to3 (by simp) (by simp -dsimp))) ?_
  refine(ih_f38 x v v3 [] list 0 o' ho15) _ rfl _ ?_
  repeat first|refine cg ?_|simp -dsimp
  revert hF;refine abr.sp ?_ ?_<;>intro h16 q17 hF
  ·have z18:(0<(x.els.length:Int)):=auz
   have hF:=ob hF;obtain⟨x19,e20,hF⟩:=hF
   have le20:=ZD e20
   repeat first|refine cg ?_|simp -dsimp[h16,z18,↓e20]
   have hF:=ob hF;obtain⟨v21,e22,hF⟩:=hF
   refine((ih_f37 o'.2 x19 v21 e22)).go (pl [0]) (by simp) (by simp) (ZHK _ rfl (by decide)) (by intro i hi hi';simp at hi hi';first|omega|(subst hi';simp[pl])) (by first|simp[h16,z18,↓e20];done|simp_all) (by first|simp[h16,z18,↓e20];done|simp_all) ?_
   repeat first|refine cg ?_|simp -dsimp[h16,z18,↓e20]
   have hF:=ob hF;obtain⟨o'35,ho34,hF⟩:=hF
   refine ALoop.goU _ ?_ (((CC.f35 B hB1 hB2 x v o' v21) 0 o'35 ho34) _ rfl _ ?_)
   ·exact(Gh.to3 (by simp) (by first|simp -dsimp[h16,z18,↓e20];done|simp_all))
   rcases o'35 with r0|sx
   ·dsimp only at hF
    cases hF
    intro st h
    simpa using h
   ·dsimp only at hF
    have hF:=oc hF;obtain⟨c36,hF⟩:=hF
    cases hF
    repeat first|refine cg ?_|simp -dsimp
    all_goals(try first|omega|rfl)
  ·have z18:¬(0<(x.els.length:Int)):=auz
   repeat first|refine cg ?_|simp -dsimp[h16,q17,z18]
   have hF:=ob hF;obtain⟨o'49,ho48,hF⟩:=hF
   refine ALoop.goU _ ?_ (((CC.f36 B hB1 hB2 x v v3 o') 0 o'49 ho48) _ rfl _ ?_)
   ·exact(Gh.to3 (by simp) (by first|simp -dsimp[h16,q17,z18];done|simp_all))
   rcases o'49 with r052|sx50
   ·dsimp only at hF
    cases hF
    intro st h
    simpa using h
   ·dsimp only at hF
    have hF:=oc hF;obtain⟨c51,hF⟩:=hF
    cases hF
    repeat first|refine cg ?_|simp -dsimp
    all_goals(try first|omega|rfl)
 ·intro _f_f37 _f_f38 ih_f37 ih_f38 x v v3 out list5 i o hF
  intro c hc Q hq
  obtain rfl:c=_:=ZS hc rfl
  refine ALoopU.know fun hk hs=> ?_
  have d0:=hs 0 _ rfl
  simp -dsimp[Blk.bnd]at d0
  have d1:=hs 1 _ rfl
  simp -dsimp[Blk.bnd]at d1
  have d3:=hs 3 _ rfl
  simp -dsimp[Blk.bnd]at d3
  have d4:=hs 4 _ rfl
  simp -dsimp[Blk.bnd]at d4
  clear hk hs
  refine ALoopU.enter ?_
  repeat first|refine cg ?_|simp -dsimp
  revert hF;refine abr.sp ?_ ?_<;>intro h6 q7 hF
  ·have z8:((i:Int)<(x.branches.length:Int)):=auz
   have hF:=ob hF;obtain⟨x9,e10,hF⟩:=hF
   have le10:=ZD e10
   repeat first|refine cg ?_|simp -dsimp[h6,z8,↓e10]
   have hF:=ob hF;obtain⟨v11,e12,hF⟩:=hF
   refine((ih_f37 list5 x9.tree v11 e12)).go (pl [0]) (by simp) (by simp) (ZHK _ rfl (by decide)) (by intro i hi hi';simp at hi hi';first|omega|(subst hi';simp[pl])) (by first|simp[h6,z8,↓e10];done|simp_all) (by first|simp[h6,z8,↓e10];done|simp_all) ?_
   repeat first|refine cg ?_|simp -dsimp[h6,z8,↓e10]
   refine ADraw.eff [] [(0,1),(0,1),(0,0),(0,0),(0,0),(0,0),(0,0),(0,0),(0,0),(0,0),(0,0),(0,0),(0,0),(0,0),(0,0),(0,0),(0,0),(0,0),(0,0),(0,0),(0,0),(0,0),(0,3),(0,3),(2,2),(0,3)] [0,2,1,1,1,1,1,1,1,1,1,1,1,1,1,1,1,1,1,1,1,1,1,1,1,1] follows (by kernel_rfl) (by kernel_rfl) (by kernel_rfl) ?_
   have hF:=oc hF;obtain⟨c13,hF⟩:=hF
   have w14:IntKind.i64.wrap ((i:Int)+1)=(i:Int)+1:=ZB (by omega) (by omega)
   repeat first|refine cg ?_|simp -dsimp[h6,z8,↓e10,w14]
   refine Again.go _ ?_ ((ih_f38 x v v3 (out++[(⟨x9.ctor,x9.n,x9.m,v11.2⟩:Vl.Edge)]) v11.1 (i+1) o hF) _ rfl _ hq)
   exact(Gh.to3 (by simp) (by first|simp -dsimp[h6,z8,↓e10,w14];done|simp_all))
  ·have z8:¬((i:Int)<(x.branches.length:Int)):=auz
   cases hF
   repeat first|refine cg ?_|simp -dsimp[h6,q7,z8]
   refine Leave.go _ (Gh.to3 (by simp) (by first|simp -dsimp[h6,q7,z8];done|simp_all)) hq
theorem C.f39 (x:Tree)(r:(List Vl.Node)×Bool)(hF:F.f39 x=some r):PureCall Try.prog B 5 [.agg [li x.op,li x.clause,am PathBind.c x.binds,am cI x.path,am Branch.c x.branches,am Tree.c x.els]] (.tup [am Vl.Node.c r.1,.lit (.bool r.2)]):=by
 unfold F.f39 at hF
 refine PureCall.enterLe Try.func5 (by kernel_rfl) rfl Try.ntmps5 (by simp) (by simp) ?_
 repeat first|refine cg ?_|simp -dsimp
 have hF:=ob hF;obtain⟨v,e1,hF⟩:=hF
 refine(((CC.f21 B hB1 hB2).1 x 300 v e1)).goW (by simp) (by simp) ?_
 repeat first|refine cg ?_|simp -dsimp
 revert hF;refine abr.ns ?_ ?_<;>intro h2 q3 hF
 ·repeat first|refine cg ?_|simp -dsimp[h2,q3]
  have hF:=ob hF;obtain⟨v4,e5,hF⟩:=hF
  refine(((CC.f24 B hB1 hB2).1 x v4 e5)).goW (by first|simp[h2,q3];done|simp_all) (by simp) ?_
  repeat first|refine cg ?_|simp -dsimp[h2,q3]
  revert hF;refine abr.ns (fun h6 q7 hF=> ?_) (fun h6 q7 hF=> ?_)
  ·cases hF
   repeat first|refine cg ?_|simp -dsimp[h2,q3,h6,q7]
   all_goals(try first|omega|rfl)
  ·repeat first|refine cg ?_|simp -dsimp[h2,q3,h6,q7]
   have hF:=ob hF;obtain⟨v8,e9,hF⟩:=hF
   refine ACall.nilArg 0 6 (by simp) ?_
   repeat first|refine cg ?_|simp -dsimp[h2,q3,h6,q7]
   refine(((CC.f37 B hB1 hB2).1 [] x v8 e9)).go (pl [1]) (by simp) (by simp) (ZHK _ rfl (by decide)) (by intro i hi hi';simp at hi hi';first|omega|(subst hi';simp[pl])) (by first|simp[h2,q3,h6,q7];done|simp_all) (by first|simp[h2,q3,h6,q7];done|simp_all) ?_
   cases hF
   repeat first|refine cg ?_|simp -dsimp[h2,q3,h6,q7]
   all_goals(try first|omega|rfl)
 ·cases hF
  repeat first|refine cg ?_|simp -dsimp[h2,q3]
  all_goals(try first|omega|rfl)
theorem CC.laws_toIntS__f_l1 (a:List Int):(∀(out:List Int) (i:Nat) (o:List Int),F.f10 a out i=some o→∀(c:Code),ZAC [1,1,0,1,0,0] (ZL Try.f21)=some c→∀(Q:Exit→ASt→Prop),(Q (.exit 0) ⟨[(3,.own 1 (List.length (α:=Int) o))],[.pack [] [],.elems 1 (List.map cI o)]⟩)→ALoopU Try.prog B 0 22 (hold c .mk) ⟨[(0,am cI a),(3,.own 1 (List.length (α:=Int) out)),(4,li (i:Int))],[.pack [] [],.elems 1 (List.map cI out)]⟩ (hold Q .mk)):=by
 refine F.f10.partial_correctness a
  _
  ?_
 ·intro _f_laws_toIntS__f_l1 ih_laws_toIntS__f_l1 out i o hF
  intro c hc Q hq
  obtain rfl:c=_:=ZS hc rfl
  refine ALoopU.know fun hk hs=> ?_
  have b0:=hk 0
  simp -dsimp at b0
  have d1:=hs 1 _ rfl
  simp -dsimp[Blk.bnd]at d1
  clear hk hs
  refine ALoopU.enter ?_
  repeat first|refine cg ?_|simp -dsimp
  revert hF;refine abr.sp ?_ ?_<;>intro h2 q3 hF
  ·have z4:((i:Int)<(a.length:Int)):=auz
   have hF:=ob hF;obtain⟨x,e5,hF⟩:=hF
   have le5:=ZD e5
   have hF:=ob hF;obtain⟨x6,e7,hF⟩:=hF
   have le7:=ZD e7
   have w8:IntKind.i64.wrap ((i:Int)+1)=(i:Int)+1:=ZB (by omega) (by omega)
   repeat first|refine cg ?_|simp -dsimp[h2,z4,↓e5,↓e7,w8]
   refine Again.go _ ?_ ((ih_laws_toIntS__f_l1 (out.set i x) (i+1) o hF) _ rfl _ hq)
   exact(Gh.to3 (by simp) (by first|simp -dsimp[h2,z4,↓e5,↓e7,w8];done|simp_all))
  ·have z4:¬((i:Int)<(a.length:Int)):=auz
   cases hF
   repeat first|refine cg ?_|simp -dsimp[h2,q3,z4]
   refine Leave.go _ (Gh.to3 (by simp) (by first|simp -dsimp[h2,q3,z4];done|simp_all)) hq
theorem C.laws_toIntS__f (a:List Int)(r:List Int)(hF:F.f11 a=some r):FCall Try.prog B 21 [am cI a] (am cI r):=by
 unfold F.f11 at hF
 refine FCall.enterG Try.func21 (by kernel_rfl) rfl Try.ntmps21 (by simp) (Gh.packZ .nil) ?_
 have hF:=oc hF;obtain⟨c1,hF⟩:=hF
 repeat first|refine cg ?_|simp -dsimp
 have hF:=ob hF;obtain⟨o',ho9,hF⟩:=hF
 refine ALoop.goU _ ?_ (((CC.laws_toIntS__f_l1 B hB1 hB2 a) (List.replicate a.length 0) 0 o' ho9) _ rfl _ ?_)
 ·exact(Gh.to3 (by simp) (by simp -dsimp))
 cases hF
 repeat first|refine cg ?_|simp -dsimp
 exact⟨_,by decide,(.cell (CD.ownE 1 _ 1 rfl (ZED _) (by simp) .nil) .nil:CT _ _ _ _)⟩
theorem C.laws_toPathBind__f (a:PathBind)(r:PathBind)(hF:F.f12 a=some r):FCall Try.prog B 45 [.agg [li a.var,am cI a.path]] (.agg [li r.var,am cI r.path]):=by
 unfold F.f12 at hF
 refine FCall.enterG Try.func45 (by kernel_rfl) rfl Try.ntmps45 (by simp) (Gh.packZ .nil) ?_
 repeat first|refine cg ?_|simp -dsimp
 have hF:=ob hF;obtain⟨v,e1,hF⟩:=hF
 refine((C.laws_toIntS__f B hB1 hB2 a.path v e1)).go1 (by simp -dsimp) (by simp) (fun h o_h=> ?_)
 cases hF
 repeat first|refine cg ?_|simp -dsimp[o_h]
 exact⟨_,by decide,(.agg (.lit _ (.pk 4 rfl .nil)) .nil:CT _ _ _ _)⟩
theorem CC.laws_toPathBindS__f_l1 (a:List PathBind):(∀(out:List PathBind) (i:Nat) (o:List PathBind),F.f13 a out i=some o→∀(R:List (List AV)),∀(U:List Value),RW 2 (List.length (α:=PathBind) out) R U→∀(c:Code),ZAC [1,1,0,1,0,0] (ZL Try.f20)=some c→∀(Q:Exit→ASt→Prop),(∀(Rq:List (List AV)) (Uq:List Value),RW 2 (List.length (α:=PathBind) o) Rq Uq→Q (.exit 0) ⟨[(3,.own 1 (List.length (α:=PathBind) o))],[.pack [] [],.elems 2 Rq,.pack (List.flatten (List.map PathBind.c o)) Uq]⟩)→ALoopU Try.prog B 0 23 (hold c .mk) ⟨[(0,am PathBind.c a),(3,.own 1 (List.length (α:=PathBind) out)),(4,li (i:Int))],[.pack [] [],.elems 2 R,.pack (List.flatten (List.map PathBind.c out)) U]⟩ (hold Q .mk)):=by
 refine F.f13.partial_correctness a
  _
  ?_
 ·intro _f_laws_toPathBindS__f_l1 ih_laws_toPathBindS__f_l1 out i o hF
  intro R U H2 c hc Q hq
  obtain rfl:c=_:=ZS hc rfl
  refine ALoopU.know fun hk hs=> ?_
  have b0:=hk 0
  simp -dsimp at b0
  have d1:=hs 1 _ rfl
  simp -dsimp[Blk.bnd]at d1
  clear hk hs
  refine ALoopU.enter ?_
  repeat first|refine cg ?_|simp -dsimp[RW.len H2,RW.closed H2]
  revert hF;refine abr.sp ?_ ?_<;>intro h4 q5 hF
  ·have z6:((i:Int)<(a.length:Int)):=auz
   have hF:=ob hF;obtain⟨x,e7,hF⟩:=hF
   have le7:=ZD e7
   repeat first|refine cg ?_|simp -dsimp[RW.len H2,RW.closed H2,h4,z6,↓e7]
   have hF:=ob hF;obtain⟨v,e8,hF⟩:=hF
   refine((C.laws_toPathBind__f B hB1 hB2 x v e8)).go1 (by first|simp -dsimp[RW.len H2,RW.closed H2,h4,z6,↓e7];done|simp_all) (by simp) (fun h o_h=> ?_)
   have hF:=ob hF;obtain⟨x9,e10,hF⟩:=hF
   have le10:=ZD e10
   obtain⟨row11,hrow11,lrow11⟩:=RW.row H2 le10
   have w12:IntKind.i64.wrap ((i:Int)+1)=(i:Int)+1:=ZB (by omega) (by omega)
   repeat first|refine cg ?_|simp -dsimp[RW.len H2,RW.closed H2,h4,z6,↓e7,o_h,↓e10,hrow11,lrow11,w12]
   refine Again.go ⟨[(0,.arr (List.map PathBind.c a)),(3,.own 1 (List.length (α:=PathBind) (out.set i v))),(4,.lit (.int .i64 ((i+1):Int)))],[.pack [] [],.elems 2 (R.set i [.lit (.int .i64 v.var),.lit h]),.pack (List.flatten (List.map PathBind.c (out.set i v))) (ZJM 2 i U [.int .i64 v.var,h])]⟩ (by refine Gh.trans (Gh.setRow (c:=PathBind.c) (y:=v) 2 [3] (by exact rfl) e10 (by simp) H2 (by simp) (.lit (.int .i64 v.var) (.pk 3 (by exact rfl) .nil)) (by simp) (by decide)) ?_;exact(Gh.to3 (by simp) (by first|simp -dsimp[RW.len H2,RW.closed H2,h4,z6,↓e7,o_h,↓e10,hrow11,lrow11,w12];done|simp_all))) ?_
   exact(ih_laws_toPathBindS__f_l1 (out.set i v) (i+1) o hF) (R.set i [.lit (.int .i64 v.var),.lit h]) (ZJM 2 i U [.int .i64 v.var,h]) ((RW.set H2 le10 [.int .i64 v.var,h] rfl).cong (by simp) (by simp) rfl) _ rfl _ hq
  ·have z6:¬((i:Int)<(a.length:Int)):=auz
   cases hF
   repeat first|refine cg ?_|simp -dsimp[RW.len H2,RW.closed H2,h4,q5,z6]
   refine Leave.go ⟨[(3,.own 1 (List.length (α:=PathBind) out))],[.pack [] [],.elems 2 R,.pack (List.flatten (List.map PathBind.c out)) U]⟩ (Gh.to3 (by simp) (by first|simp -dsimp[RW.len H2,RW.closed H2,h4,q5,z6];done|simp_all)) ?_
   exact hq R U H2
theorem C.laws_toPathBindS__f (a:List PathBind)(r:List PathBind)(hF:F.f14 a=some r):FCall Try.prog B 20 [am PathBind.c a] (am PathBind.c r):=by
 unfold F.f14 at hF
 refine FCall.enterG Try.func20 (by kernel_rfl) rfl Try.ntmps20 (by simp) (Gh.packZ .nil) ?_
 have hF:=oc hF;obtain⟨c1,hF⟩:=hF
 repeat first|refine cg ?_|simp -dsimp
 have hF:=ob hF;obtain⟨o',ho13,hF⟩:=hF
 refine ALoop.goU ⟨[(0,.arr (List.map PathBind.c a)),(3,.own 1 (List.length (α:=PathBind) (List.replicate a.length PathBind.z))),(4,.lit (.int .i64 0))],[.pack [] [],.elems 2 (List.replicate a.length [.lit (.int .i64 0),.lit (.slice none 0 0)]),.pack (List.flatten (List.map PathBind.c (List.replicate a.length PathBind.z))) (List.flatten (List.replicate a.length [.int .i64 0,.slice none 0 0]))]⟩ (by refine Gh.trans (Gh.packZ (ZC.rep (.lit (.int .i64 0) (.emp none .nil)) a.length)) ?_;exact(Gh.to3 (by simp) (by simp -dsimp))) ?_
 refine((CC.laws_toPathBindS__f_l1 B hB1 hB2 a) (List.replicate a.length PathBind.z) 0 o' ho13) (List.replicate a.length [.lit (.int .i64 0),.lit (.slice none 0 0)]) (List.flatten (List.replicate a.length [.int .i64 0,.slice none 0 0])) ((RW.rep a.length [.int .i64 0,.slice none 0 0]).cong (by simp) (by simp) rfl) _ rfl _ ?_
 intro Rq Uq Hq3
 cases hF
 repeat first|refine cg ?_|simp -dsimp[RW.len Hq3,RW.closed Hq3]
 exact⟨_,by decide,(.cell (.ownP 1 _ 2 rfl (by simp) (.blk 2 rfl .nil) (by simp[Hq3.2.2]) (by simp[Hq3.1]) (by simp) (by simp) .nil) .nil:CT _ _ _ _)⟩
theorem CC.laws_toBranch__f  :(∀(a:Branch) (r:Branch),F.f15 a=some r→FCall Try.prog B 46 [.agg [li a.ctor,li a.n,li a.m,li a.tree.op,li a.tree.clause,am PathBind.c a.tree.binds,am cI a.tree.path,am Branch.c a.tree.branches,am Tree.c a.tree.els]] (.agg [li r.ctor,li r.n,li r.m,li r.tree.op,li r.tree.clause,am PathBind.c r.tree.binds,am cI r.tree.path,am Branch.c r.tree.branches,am Tree.c r.tree.els]))∧
  (∀(a:Tree) (r:Tree),F.f17 a=some r→FCall Try.prog B 6 [.agg [li a.op,li a.clause,am PathBind.c a.binds,am cI a.path,am Branch.c a.branches,am Tree.c a.els]] (.agg [li r.op,li r.clause,am PathBind.c r.binds,am cI r.path,am Branch.c r.branches,am Tree.c r.els]))∧
  (∀(a:List Tree) (r:List Tree),F.f18 a=some r→FCall Try.prog B 23 [am Tree.c a] (am Tree.c r))∧
  (∀(a:List Tree) (out:List Tree) (i:Nat) (o:List Tree),F.f20 a out i=some o→∀(R:List (List AV)),∀(U:List Value),RW 6 (List.length (α:=Tree) out) R U→∀(c:Code),ZAC [1,1,0,1,0,0] (ZL Try.f23)=some c→∀(Q:Exit→ASt→Prop),(∀(Rq:List (List AV)) (Uq:List Value),RW 6 (List.length (α:=Tree) o) Rq Uq→Q (.exit 0) ⟨[(3,.own 1 (List.length (α:=Tree) o))],[.pack [] [],.elems 6 Rq,.pack (List.flatten (List.map Tree.c o)) Uq]⟩)→ALoopU Try.prog B 0 23 (hold c .mk) ⟨[(0,am Tree.c a),(3,.own 1 (List.length (α:=Tree) out)),(4,li (i:Int))],[.pack [] [],.elems 6 R,.pack (List.flatten (List.map Tree.c out)) U]⟩ (hold Q .mk))∧
  (∀(a:List Branch) (r:List Branch),F.f16 a=some r→FCall Try.prog B 22 [am Branch.c a] (am Branch.c r))∧
  (∀(a:List Branch) (out:List Branch) (i:Nat) (o:List Branch),F.f19 a out i=some o→∀(R:List (List AV)),∀(U:List Value),RW 9 (List.length (α:=Branch) out) R U→∀(c:Code),ZAC [1,1,0,1,0,0] (ZL Try.f22)=some c→∀(Q:Exit→ASt→Prop),(∀(Rq:List (List AV)) (Uq:List Value),RW 9 (List.length (α:=Branch) o) Rq Uq→Q (.exit 0) ⟨[(3,.own 1 (List.length (α:=Branch) o))],[.pack [] [],.elems 9 Rq,.pack (List.flatten (List.map Branch.c o)) Uq]⟩)→ALoopU Try.prog B 0 23 (hold c .mk) ⟨[(0,am Branch.c a),(3,.own 1 (List.length (α:=Branch) out)),(4,li (i:Int))],[.pack [] [],.elems 9 R,.pack (List.flatten (List.map Branch.c out)) U]⟩ (hold Q .mk)):=by
 refine F.f15.mutual_partial_correctness 
  _ _ _ _ _ _
  ?_ ?_ ?_ ?_ ?_ ?_
 ·intro _f_laws_toTree__f ih_laws_toTree__f a r hF
  refine FCall.enterG Try.func46 (by kernel_rfl) rfl Try.ntmps46 (by simp) (Gh.packZ .nil) ?_
  repeat first|refine cg ?_|simp -dsimp
  have hF:=ob hF;obtain⟨v,e1,hF⟩:=hF
  refine((ih_laws_toTree__f a.tree v e1)).go4 (by simp -dsimp) (by simp) (fun h h2 h3 h4 o_h o_h2 o_h3 o_h4=> ?_)
  cases hF
  repeat first|refine cg ?_|simp -dsimp[o_h,o_h2,o_h3,o_h4]
  exact⟨_,by decide,(.agg (.lit _ (.lit _ (.lit _ (.lit _ (.lit _ (.pk 4 rfl (.pk 5 rfl (.pk 6 rfl (.pk 7 rfl .nil))))))))) .nil:CT _ _ _ _)⟩
 ·intro _f_laws_toTreeS__f _f_laws_toBranchS__f ih_laws_toTreeS__f ih_laws_toBranchS__f a r hF
  refine FCall.enterG Try.func6 (by kernel_rfl) rfl Try.ntmps6 (by simp) (Gh.packZ .nil) ?_
  repeat first|refine cg ?_|simp -dsimp
  have hF:=ob hF;obtain⟨v,e1,hF⟩:=hF
  refine((C.laws_toPathBindS__f B hB1 hB2 a.binds v e1)).go1 (by simp -dsimp) (by simp) (fun h o_h=> ?_)
  repeat first|refine cg ?_|simp -dsimp[o_h]
  have hF:=ob hF;obtain⟨v2,e3,hF⟩:=hF
  refine((C.laws_toIntS__f B hB1 hB2 a.path v2 e3)).go1 (by first|simp -dsimp[o_h];done|simp_all) (by simp) (fun h4 o_h4=> ?_)
  repeat first|refine cg ?_|simp -dsimp[o_h,o_h4]
  have hF:=ob hF;obtain⟨v5,e6,hF⟩:=hF
  refine((ih_laws_toBranchS__f a.branches v5 e6)).go1 (by first|simp -dsimp[o_h,o_h4];done|simp_all) (by simp) (fun h7 o_h7=> ?_)
  repeat first|refine cg ?_|simp -dsimp[o_h,o_h4,o_h7]
  have hF:=ob hF;obtain⟨v8,e9,hF⟩:=hF
  refine((ih_laws_toTreeS__f a.els v8 e9)).go1 (by first|simp -dsimp[o_h,o_h4,o_h7];done|simp_all) (by simp) (fun h10 o_h10=> ?_)
  cases hF
  repeat first|refine cg ?_|simp -dsimp[o_h,o_h4,o_h7,o_h10]
  exact⟨_,by decide,(.agg (.lit _ (.lit _ (.pk 4 rfl (.pk 5 rfl (.pk 6 rfl (.pk 7 rfl .nil)))))) .nil:CT _ _ _ _)⟩
 ·intro _f_laws_toTreeS__f_l1 ih_laws_toTreeS__f_l1 a r hF
  refine FCall.enterG Try.func23 (by kernel_rfl) rfl Try.ntmps23 (by simp) (Gh.packZ .nil) ?_
  have hF:=oc hF;obtain⟨c1,hF⟩:=hF
  repeat first|refine cg ?_|simp -dsimp
  have hF:=ob hF;obtain⟨o',ho16,hF⟩:=hF
  refine ALoop.goU ⟨[(0,.arr (List.map Tree.c a)),(3,.own 1 (List.length (α:=Tree) (List.replicate a.length Tree.z))),(4,.lit (.int .i64 0))],[.pack [] [],.elems 6 (List.replicate a.length [.lit (.int .i64 0),.lit (.int .i64 0),.lit (.slice none 0 0),.lit (.slice none 0 0),.lit (.slice none 0 0),.lit (.slice none 0 0)]),.pack (List.flatten (List.map Tree.c (List.replicate a.length Tree.z))) (List.flatten (List.replicate a.length [.int .i64 0,.int .i64 0,.slice none 0 0,.slice none 0 0,.slice none 0 0,.slice none 0 0]))]⟩ (by refine Gh.trans (Gh.packZ (ZC.rep (.lit (.int .i64 0) (.lit (.int .i64 0) (.emp none (.emp none (.emp none (.emp none .nil)))))) a.length)) ?_;exact(Gh.to3 (by simp) (by simp -dsimp))) ?_
  refine(ih_laws_toTreeS__f_l1 a (List.replicate a.length Tree.z) 0 o' ho16) (List.replicate a.length [.lit (.int .i64 0),.lit (.int .i64 0),.lit (.slice none 0 0),.lit (.slice none 0 0),.lit (.slice none 0 0),.lit (.slice none 0 0)]) (List.flatten (List.replicate a.length [.int .i64 0,.int .i64 0,.slice none 0 0,.slice none 0 0,.slice none 0 0,.slice none 0 0])) ((RW.rep a.length [.int .i64 0,.int .i64 0,.slice none 0 0,.slice none 0 0,.slice none 0 0,.slice none 0 0]).cong (by simp) (by simp) rfl) _ rfl _ ?_
  intro Rq Uq Hq3
  cases hF
  repeat first|refine cg ?_|simp -dsimp[RW.len Hq3,RW.closed Hq3]
  exact⟨_,by decide,(.cell (.ownP 1 _ 6 rfl (by simp) (.blk 2 rfl .nil) (by simp[Hq3.2.2]) (by simp[Hq3.1]) (by simp) (by simp) .nil) .nil:CT _ _ _ _)⟩
 ·intro _f_laws_toTree__f _f_laws_toTreeS__f_l1 ih_laws_toTree__f ih_laws_toTreeS__f_l1 a out i o hF
  intro R U H2 c hc Q hq
  obtain rfl:c=_:=ZS hc rfl
  refine ALoopU.know fun hk hs=> ?_
  have b0:=hk 0
  simp -dsimp at b0
  have d1:=hs 1 _ rfl
  simp -dsimp[Blk.bnd]at d1
  clear hk hs
  refine ALoopU.enter ?_
  repeat first|refine cg ?_|simp -dsimp[RW.len H2,RW.closed H2]
  revert hF;refine abr.sp ?_ ?_<;>intro h4 q5 hF
  ·have z6:((i:Int)<(a.length:Int)):=auz
   have hF:=ob hF;obtain⟨x,e7,hF⟩:=hF
   have le7:=ZD e7
   repeat first|refine cg ?_|simp -dsimp[RW.len H2,RW.closed H2,h4,z6,↓e7]
   have hF:=ob hF;obtain⟨v,e8,hF⟩:=hF
   refine((ih_laws_toTree__f x v e8)).go4 (by first|simp -dsimp[RW.len H2,RW.closed H2,h4,z6,↓e7];done|simp_all) (by simp) (fun h h9 h10 h11 o_h o_h9 o_h10 o_h11=> ?_)
   have hF:=ob hF;obtain⟨x12,e13,hF⟩:=hF
   have le13:=ZD e13
   obtain⟨row14,hrow14,lrow14⟩:=RW.row H2 le13
   have w15:IntKind.i64.wrap ((i:Int)+1)=(i:Int)+1:=ZB (by omega) (by omega)
   repeat first|refine cg ?_|simp -dsimp[RW.len H2,RW.closed H2,h4,z6,↓e7,o_h,o_h9,o_h10,o_h11,↓e13,hrow14,lrow14,w15]
   refine Again.go ⟨[(0,.arr (List.map Tree.c a)),(3,.own 1 (List.length (α:=Tree) (out.set i v))),(4,.lit (.int .i64 ((i+1):Int)))],[.pack [] [],.elems 6 (R.set i [.lit (.int .i64 v.op),.lit (.int .i64 v.clause),.lit h,.lit h9,.lit h10,.lit h11]),.pack (List.flatten (List.map Tree.c (out.set i v))) (ZJM 6 i U [.int .i64 v.op,.int .i64 v.clause,h,h9,h10,h11])]⟩ (by refine Gh.trans (Gh.setRow (c:=Tree.c) (y:=v) 2 [3,4,5,6] (by exact rfl) e13 (by simp) H2 (by simp) (.lit (.int .i64 v.op) (.lit (.int .i64 v.clause) (.pk 3 (by exact rfl) (.pk 4 (by exact rfl) (.pk 5 (by exact rfl) (.pk 6 (by exact rfl) .nil)))))) (by simp) (by decide)) ?_;exact(Gh.to3 (by simp) (by first|simp -dsimp[RW.len H2,RW.closed H2,h4,z6,↓e7,o_h,o_h9,o_h10,o_h11,↓e13,hrow14,lrow14,w15];done|simp_all))) ?_
   exact(ih_laws_toTreeS__f_l1 a (out.set i v) (i+1) o hF) (R.set i [.lit (.int .i64 v.op),.lit (.int .i64 v.clause),.lit h,.lit h9,.lit h10,.lit h11]) (ZJM 6 i U [.int .i64 v.op,.int .i64 v.clause,h,h9,h10,h11]) ((RW.set H2 le13 [.int .i64 v.op,.int .i64 v.clause,h,h9,h10,h11] rfl).cong (by simp) (by simp) rfl) _ rfl _ hq
  ·have z6:¬((i:Int)<(a.length:Int)):=auz
   cases hF
   repeat first|refine cg ?_|simp -dsimp[RW.len H2,RW.closed H2,h4,q5,z6]
   refine Leave.go ⟨[(3,.own 1 (List.length (α:=Tree) out))],[.pack [] [],.elems 6 R,.pack (List.flatten (List.map Tree.c out)) U]⟩ (Gh.to3 (by simp) (by first|simp -dsimp[RW.len H2,RW.closed H2,h4,q5,z6];done|simp_all)) ?_
   exact hq R U H2
 ·intro _f_laws_toBranchS__f_l1 ih_laws_toBranchS__f_l1 a r hF
  refine FCall.enterG Try.func22 (by kernel_rfl) rfl Try.ntmps22 (by simp) (Gh.packZ .nil) ?_
  have hF:=oc hF;obtain⟨c1,hF⟩:=hF
  repeat first|refine cg ?_|simp -dsimp
  have hF:=ob hF;obtain⟨o',ho16,hF⟩:=hF
  refine ALoop.goU ⟨[(0,.arr (List.map Branch.c a)),(3,.own 1 (List.length (α:=Branch) (List.replicate a.length Branch.z))),(4,.lit (.int .i64 0))],[.pack [] [],.elems 9 (List.replicate a.length [.lit (.int .i64 0),.lit (.int .i64 0),.lit (.int .i64 0),.lit (.int .i64 0),.lit (.int .i64 0),.lit (.slice none 0 0),.lit (.slice none 0 0),.lit (.slice none 0 0),.lit (.slice none 0 0)]),.pack (List.flatten (List.map Branch.c (List.replicate a.length Branch.z))) (List.flatten (List.replicate a.length [.int .i64 0,.int .i64 0,.int .i64 0,.int .i64 0,.int .i64 0,.slice none 0 0,.slice none 0 0,.slice none 0 0,.slice none 0 0]))]⟩ (by refine Gh.trans (Gh.packZ (ZC.rep (.lit (.int .i64 0) (.lit (.int .i64 0) (.lit (.int .i64 0) (.lit (.int .i64 0) (.lit (.int .i64 0) (.emp none (.emp none (.emp none (.emp none .nil))))))))) a.length)) ?_;exact(Gh.to3 (by simp) (by simp -dsimp))) ?_
  refine(ih_laws_toBranchS__f_l1 a (List.replicate a.length Branch.z) 0 o' ho16) (List.replicate a.length [.lit (.int .i64 0),.lit (.int .i64 0),.lit (.int .i64 0),.lit (.int .i64 0),.lit (.int .i64 0),.lit (.slice none 0 0),.lit (.slice none 0 0),.lit (.slice none 0 0),.lit (.slice none 0 0)]) (List.flatten (List.replicate a.length [.int .i64 0,.int .i64 0,.int .i64 0,.int .i64 0,.int .i64 0,.slice none 0 0,.slice none 0 0,.slice none 0 0,.slice none 0 0])) ((RW.rep a.length [.int .i64 0,.int .i64 0,.int .i64 0,.int .i64 0,.int .i64 0,.slice none 0 0,.slice none 0 0,.slice none 0 0,.slice none 0 0]).cong (by simp) (by simp) rfl) _ rfl _ ?_
  intro Rq Uq Hq3
  cases hF
  repeat first|refine cg ?_|simp -dsimp[RW.len Hq3,RW.closed Hq3]
  exact⟨_,by decide,(.cell (.ownP 1 _ 9 rfl (by simp) (.blk 2 rfl .nil) (by simp[Hq3.2.2]) (by simp[Hq3.1]) (by simp) (by simp) .nil) .nil:CT _ _ _ _)⟩
 ·intro _f_laws_toBranch__f _f_laws_toBranchS__f_l1 ih_laws_toBranch__f ih_laws_toBranchS__f_l1 a out i o hF
  intro R U H2 c hc Q hq
  obtain rfl:c=_:=ZS hc rfl
  refine ALoopU.know fun hk hs=> ?_
  have b0:=hk 0
  simp -dsimp at b0
  have d1:=hs 1 _ rfl
  simp -dsimp[Blk.bnd]at d1
  clear hk hs
  refine ALoopU.enter ?_
  repeat first|refine cg ?_|simp -dsimp[RW.len H2,RW.closed H2]
  revert hF;refine abr.sp ?_ ?_<;>intro h4 q5 hF
  ·have z6:((i:Int)<(a.length:Int)):=auz
   have hF:=ob hF;obtain⟨x,e7,hF⟩:=hF
   have le7:=ZD e7
   repeat first|refine cg ?_|simp -dsimp[RW.len H2,RW.closed H2,h4,z6,↓e7]
   have hF:=ob hF;obtain⟨v,e8,hF⟩:=hF
   refine((ih_laws_toBranch__f x v e8)).go4 (by first|simp -dsimp[RW.len H2,RW.closed H2,h4,z6,↓e7];done|simp_all) (by simp) (fun h h9 h10 h11 o_h o_h9 o_h10 o_h11=> ?_)
   have hF:=ob hF;obtain⟨x12,e13,hF⟩:=hF
   have le13:=ZD e13
   obtain⟨row14,hrow14,lrow14⟩:=RW.row H2 le13
   have w15:IntKind.i64.wrap ((i:Int)+1)=(i:Int)+1:=ZB (by omega) (by omega)
   repeat first|refine cg ?_|simp -dsimp[RW.len H2,RW.closed H2,h4,z6,↓e7,o_h,o_h9,o_h10,o_h11,↓e13,hrow14,lrow14,w15]
   refine Again.go ⟨[(0,.arr (List.map Branch.c a)),(3,.own 1 (List.length (α:=Branch) (out.set i v))),(4,.lit (.int .i64 ((i+1):Int)))],[.pack [] [],.elems 9 (R.set i [.lit (.int .i64 v.ctor),.lit (.int .i64 v.n),.lit (.int .i64 v.m),.lit (.int .i64 v.tree.op),.lit (.int .i64 v.tree.clause),.lit h,.lit h9,.lit h10,.lit h11]),.pack (List.flatten (List.map Branch.c (out.set i v))) (ZJM 9 i U [.int .i64 v.ctor,.int .i64 v.n,.int .i64 v.m,.int .i64 v.tree.op,.int .i64 v.tree.clause,h,h9,h10,h11])]⟩ (by refine Gh.trans (Gh.setRow (c:=Branch.c) (y:=v) 2 [3,4,5,6] (by exact rfl) e13 (by simp) H2 (by simp) (.lit (.int .i64 v.ctor) (.lit (.int .i64 v.n) (.lit (.int .i64 v.m) (.lit (.int .i64 v.tree.op) (.lit (.int .i64 v.tree.clause) (.pk 3 (by exact rfl) (.pk 4 (by exact rfl) (.pk 5 (by exact rfl) (.pk 6 (by exact rfl) .nil))))))))) (by simp) (by decide)) ?_;exact(Gh.to3 (by simp) (by first|simp -dsimp[RW.len H2,RW.closed H2,h4,z6,↓e7,o_h,o_h9,o_h10,o_h11,↓e13,hrow14,lrow14,w15];done|simp_all))) ?_
   exact(ih_laws_toBranchS__f_l1 a (out.set i v) (i+1) o hF) (R.set i [.lit (.int .i64 v.ctor),.lit (.int .i64 v.n),.lit (.int .i64 v.m),.lit (.int .i64 v.tree.op),.lit (.int .i64 v.tree.clause),.lit h,.lit h9,.lit h10,.lit h11]) (ZJM 9 i U [.int .i64 v.ctor,.int .i64 v.n,.int .i64 v.m,.int .i64 v.tree.op,.int .i64 v.tree.clause,h,h9,h10,h11]) ((RW.set H2 le13 [.int .i64 v.ctor,.int .i64 v.n,.int .i64 v.m,.int .i64 v.tree.op,.int .i64 v.tree.clause,h,h9,h10,h11] rfl).cong (by simp) (by simp) rfl) _ rfl _ hq
  ·have z6:¬((i:Int)<(a.length:Int)):=auz
   cases hF
   repeat first|refine cg ?_|simp -dsimp[RW.len H2,RW.closed H2,h4,q5,z6]
   refine Leave.go ⟨[(3,.own 1 (List.length (α:=Branch) out))],[.pack [] [],.elems 9 R,.pack (List.flatten (List.map Branch.c out)) U]⟩ (Gh.to3 (by simp) (by first|simp -dsimp[RW.len H2,RW.closed H2,h4,q5,z6];done|simp_all)) ?_
   exact hq R U H2
theorem CC.f40 (x:Tree):(∀(out:List Tree) (i:Nat) (o:List Tree),F.f40 x out i=some o→∀(c:Code),ZAC [1,1,0,1,0,0] (ZL Try.f47)=some c→∀(Q:Exit→ASt→Prop),(Q (.exit 0) ⟨[(1,.ptr 0 0),(3,.own 1 (List.length (α:=Tree) o))],[.cells [li x.op,li x.clause,am PathBind.c x.binds,am cI x.path,am Branch.c x.branches,am Tree.c x.els],.elems 6 (List.map Tree.c o)]⟩)→ALoopU Try.prog B 0 23 (hold c .mk) ⟨[(1,.ptr 0 0),(3,.own 1 (List.length (α:=Tree) out)),(7,am Branch.c x.branches),(8,li (x.branches.length:Int)),(9,li (i:Int))],[.cells [li x.op,li x.clause,am PathBind.c x.binds,am cI x.path,am Branch.c x.branches,am Tree.c x.els],.elems 6 (List.map Tree.c out)]⟩ (hold Q .mk)):=by
 refine F.f40.partial_correctness x
  _
  ?_
 ·intro _f_f40 ih_f40 out i o hF
  intro c hc Q hq
  obtain rfl:c=_:=ZS hc rfl
  refine ALoopU.know fun hk hs=> ?_
  have b7:=hk 7
  simp -dsimp at b7
  have d0:=hs 0 _ rfl
  simp -dsimp[Blk.bnd]at d0
  have d1:=hs 1 _ rfl
  simp -dsimp[Blk.bnd]at d1
  clear hk hs
  refine ALoopU.enter ?_
  repeat first|refine cg ?_|simp -dsimp
  revert hF;refine abr.sp ?_ ?_<;>intro h1 q2 hF
  ·have z3:((i:Int)<(x.branches.length:Int)):=auz
   have hF:=ob hF;obtain⟨x4,e5,hF⟩:=hF
   have le5:=ZD e5
   have hF:=oc hF;obtain⟨c6,hF⟩:=hF
   have w7:IntKind.i64.wrap ((i:Int)+1)=(i:Int)+1:=ZB (by omega) (by omega)
   repeat first|refine cg ?_|simp -dsimp[h1,z3,↓e5,w7]
   refine Again.go _ ?_ ((ih_f40 (out++[x4.tree]) (i+1) o hF) _ rfl _ hq)
   exact(Gh.to3 (by simp) (by first|simp -dsimp[h1,z3,↓e5,w7];done|simp_all))
  ·have z3:¬((i:Int)<(x.branches.length:Int)):=auz
   cases hF
   repeat first|refine cg ?_|simp -dsimp[h1,q2,z3]
   refine Leave.go _ (Gh.to3 (by simp) (by first|simp -dsimp[h1,q2,z3];done|simp_all)) hq
theorem C.f41 (x:Tree)(r:List Tree)(hF:F.f41 x=some r):PureCall Try.prog B 47 [.agg [li x.op,li x.clause,am PathBind.c x.binds,am cI x.path,am Branch.c x.branches,am Tree.c x.els]] (am Tree.c r):=by
 unfold F.f41 at hF
 refine PureCall.enterLe Try.func47 (by kernel_rfl) rfl Try.ntmps47 (by simp) (by simp) ?_
 repeat first|refine cg ?_|simp -dsimp
 have hF:=ob hF;obtain⟨o',ho8,hF⟩:=hF
 refine ALoop.goU ⟨[(1,.ptr 0 0),(3,.own 1 (List.length (α:=Tree) [])),(7,.arr (List.map Branch.c x.branches)),(8,.lit (.int .i64 (x.branches.length:Int))),(9,.lit (.int .i64 0))],[.cells [.lit (.int .i64 x.op),.lit (.int .i64 x.clause),.arr (List.map PathBind.c x.binds),.arr (List.map cI x.path),.arr (List.map Branch.c x.branches),.arr (List.map Tree.c x.els)],.elems 6 (List.map Tree.c [])]⟩ (by refine Gh.trans (Gh.nil 3 6 (by simp -dsimp)) ?_;exact(Gh.to3 (by simp) (by simp -dsimp))) ?_
 refine((CC.f40 B hB1 hB2 x) [] 0 o' ho8) _ rfl _ ?_
 have hF:=oc hF;obtain⟨c9,hF⟩:=hF
 cases hF
 repeat first|refine cg ?_|simp -dsimp
 all_goals(try first|omega|rfl)
theorem CC.f42  :(∀(x:Tree) (r:Int),F.f42 x=some r→PureCall Try.prog B 24 [.agg [li x.op,li x.clause,am PathBind.c x.binds,am cI x.path,am Branch.c x.branches,am Tree.c x.els]] (li r))∧
  (∀(v:List Tree) (n:Int) (i:Nat) (o:Int),F.f43 v n i=some o→∀(c:Code),ZAC [1,1,0,1,0,0] (ZL Try.f24)=some c→∀(Q:Exit→ASt→Prop),(Q (.exit 0) ⟨[(3,li o)],[]⟩)→ALoopU Try.prog B 0 19 (hold c .mk) ⟨[(3,li n),(7,am Tree.c v),(8,li (v.length:Int)),(9,li (i:Int))],[]⟩ (hold Q .mk)):=by
 refine F.f42.mutual_partial_correctness 
  _ _
  ?_ ?_
 ·intro _f_f43 ih_f43 x r hF
  refine PureCall.enterLe Try.func24 (by kernel_rfl) rfl Try.ntmps24 (by simp) (by simp) ?_
  repeat first|refine cg ?_|simp -dsimp
  have hF:=ob hF;obtain⟨v,e1,hF⟩:=hF
  refine((C.f41 B hB1 hB2 x v e1)).goW (by simp) (by simp) ?_
  repeat first|refine cg ?_|simp -dsimp
  have hF:=ob hF;obtain⟨o',ho10,hF⟩:=hF
  refine ALoop.goU _ ?_ ((ih_f43 v 1 0 o' ho10) _ rfl _ ?_)
  ·exact(Gh.to3 (by simp) (by simp -dsimp))
  cases hF
  repeat first|refine cg ?_|simp -dsimp
  all_goals(try first|omega|rfl)
 ·intro _f_f42 _f_f43 ih_f42 ih_f43 v n i o hF
  intro c hc Q hq
  obtain rfl:c=_:=ZS hc rfl
  refine ALoopU.know fun hk hs=> ?_
  have b7:=hk 7
  simp -dsimp at b7
  clear hk hs
  refine ALoopU.enter ?_
  repeat first|refine cg ?_|simp -dsimp
  revert hF;refine abr.sp ?_ ?_<;>intro h2 q3 hF
  ·have z4:((i:Int)<(v.length:Int)):=auz
   have hF:=ob hF;obtain⟨x5,e6,hF⟩:=hF
   have le6:=ZD e6
   repeat first|refine cg ?_|simp -dsimp[h2,z4,↓e6]
   have hF:=ob hF;obtain⟨v7,e8,hF⟩:=hF
   refine((ih_f42 x5 v7 e8)).goW (by first|simp[h2,z4,↓e6];done|simp_all) (by simp) ?_
   have w9:IntKind.i64.wrap ((i:Int)+1)=(i:Int)+1:=ZB (by omega) (by omega)
   repeat first|refine cg ?_|simp -dsimp[h2,z4,↓e6,w9]
   refine Again.go _ ?_ ((ih_f43 v (IntKind.i64.wrap (n+v7)) (i+1) o hF) _ rfl _ hq)
   exact(Gh.to3 (by simp) (by first|simp -dsimp[h2,z4,↓e6,w9];done|simp_all))
  ·have z4:¬((i:Int)<(v.length:Int)):=auz
   cases hF
   repeat first|refine cg ?_|simp -dsimp[h2,q3,z4]
   refine Leave.go _ (Gh.to3 (by simp) (by first|simp -dsimp[h2,q3,z4];done|simp_all)) hq
theorem C.f44 (n:Int)(low:Int)(high:Int)(r:Bool)(hF:F.f44 n low high=some r):PureCall Try.prog B 48 [li n,li low,li high] (.lit (.bool r)):=by
 unfold F.f44 at hF
 refine PureCall.enterLe Try.func48 (by kernel_rfl) rfl Try.ntmps48 (by simp) (by simp) ?_
 repeat first|refine cg ?_|simp -dsimp
 revert hF;refine abr.sp ?_ ?_<;>intro h1 q2 hF
 ·cases hF
  repeat first|refine cg ?_|simp -dsimp[h1]
  all_goals(try first|omega|rfl)
 ·cases hF
  repeat first|refine cg ?_|simp -dsimp[h1,q2]
  all_goals(try first|omega|rfl)
theorem CC.f45  :(∀(x:Tree) (r:Bool),F.f45 x=some r→PureCall Try.prog B 25 [.agg [li x.op,li x.clause,am PathBind.c x.binds,am cI x.path,am Branch.c x.branches,am Tree.c x.els]] (.lit (.bool r)))∧
  (∀(s:List Tree) (r:Bool),F.f47 s=some r→PureCall Try.prog B 49 [am Tree.c s,.fn (.func 50) [] []] (.lit (.bool r)))∧
  (∀(s:List Tree) (r:Int),F.f48 s=some r→PureCall Try.prog B 61 [am Tree.c s,.fn (.func 50) [] []] (li r))∧
  (∀(s:List Tree) (i:Nat) (o:Lo Int Unit),F.f49 s i=some o→∀(c:Code),ZAC [1,0,1,0,0] (ZL Try.f61)=some c→∀(Q:Exit→ASt→Prop),o.post (fun r=>∀st,ZBb Try.prog Try.f61 (fun r' _=>r'.le (li r)) .ret st→Q .ret st) (fun s=>Q (.exit 0) ⟨[],[]⟩)→ALoopU Try.prog B 0 19 (hold c .mk) ⟨[(0,am Tree.c s),(1,.fn (.func 50) [] []),(7,li (s.length:Int)),(8,li (i:Int))],[]⟩ (hold Q .mk))∧
  (∀(y:Tree) (r:Bool),F.f46 y=some r→PureCall Try.prog B 50 [.agg [li y.op,li y.clause,am PathBind.c y.binds,am cI y.path,am Branch.c y.branches,am Tree.c y.els]] (.lit (.bool r))):=by
 refine F.f45.mutual_partial_correctness 
  _ _ _ _ _
  ?_ ?_ ?_ ?_ ?_
 ·intro _f_f47 ih_f47 x r hF
  refine PureCall.enterLe Try.func25 (by kernel_rfl) rfl Try.ntmps25 (by simp) (by simp) ?_
  repeat first|refine cg ?_|simp -dsimp
  have hF:=ob hF;obtain⟨v,e1,hF⟩:=hF
  refine((C.f44 B hB1 hB2 x.op 0 2 v e1)).goW (by simp) (by simp) ?_
  repeat first|refine cg ?_|simp -dsimp
  revert hF;refine abr.sp (fun h2 q3 hF=> ?_) (fun h2 q3 hF=> ?_)
  ·repeat first|refine cg ?_|simp -dsimp[h2]
   revert hF;refine abr.sp ?_ ?_<;>intro h4 q5 hF
   ·have z6:((x.branches.length:Int)≤10):=auz
    repeat first|refine cg ?_|simp -dsimp[h2,h4,z6]
    revert hF;refine abr.sp ?_ ?_<;>intro h7 q8 hF
    ·have z9:((x.els.length:Int)≤1):=auz
     repeat first|refine cg ?_|simp -dsimp[h2,h4,z6,h7,z9]
     have hF:=ob hF;obtain⟨v10,e11,hF⟩:=hF
     refine((C.f41 B hB1 hB2 x v10 e11)).goW (by first|simp[h2,h4,z6,h7,z9];done|simp_all) (by simp) ?_
     repeat first|refine cg ?_|simp -dsimp[h2,h4,z6,h7,z9]
     have hF:=ob hF;obtain⟨v12,e13,hF⟩:=hF
     refine((ih_f47 v10 v12 e13)).goW (by first|simp[h2,h4,z6,h7,z9];done|simp_all) (by simp) ?_
     cases hF
     repeat first|refine cg ?_|simp -dsimp[h2,h4,z6,h7,z9]
     all_goals(try first|omega|rfl)
    ·have z9:¬((x.els.length:Int)≤1):=auz
     cases hF
     repeat first|refine cg ?_|simp -dsimp[h2,h4,z6,h7,q8,z9]
     all_goals(try first|omega|rfl)
   ·have z6:¬((x.branches.length:Int)≤10):=auz
    cases hF
    repeat first|refine cg ?_|simp -dsimp[h2,h4,q5,z6]
    all_goals(try first|omega|rfl)
  ·cases hF
   repeat first|refine cg ?_|simp -dsimp[h2,q3]
   all_goals(try first|omega|rfl)
 ·intro _f_f48 ih_f48 s r hF
  refine PureCall.enterLe Try.func49 (by kernel_rfl) rfl Try.ntmps49 (by simp) (by simp) ?_
  repeat first|refine cg ?_|simp -dsimp
  have hF:=ob hF;obtain⟨v,e1,hF⟩:=hF
  refine((ih_f48 s v e1)).goW (by simp) (by simp) ?_
  cases hF
  repeat first|refine cg ?_|simp -dsimp
  all_goals(try first|omega|rfl)
 ·intro _f_f49 ih_f49 s r hF
  refine PureCall.enterLe Try.func61 (by kernel_rfl) rfl Try.ntmps61 (by simp) (by simp) ?_
  repeat first|refine cg ?_|simp -dsimp
  have hF:=ob hF;obtain⟨o',ho9,hF⟩:=hF
  refine ALoop.goU _ ?_ ((ih_f49 s 0 o' ho9) _ rfl _ ?_)
  ·exact(Gh.to3 (by simp) (by simp -dsimp))
  rcases o' with r0|sx
  ·dsimp only at hF
   cases hF
   intro st h
   simpa using h
  ·dsimp only at hF
   cases hF
   repeat first|refine cg ?_|simp -dsimp
   all_goals(try first|omega|rfl)
 ·intro _f_f49 _f_f46 ih_f49 ih_f46 s i o hF
  intro c hc Q hq
  obtain rfl:c=_:=ZS hc rfl
  refine ALoopU.know fun hk hs=> ?_
  have b0:=hk 0
  simp -dsimp at b0
  clear hk hs
  refine ALoopU.enter ?_
  repeat first|refine cg ?_|simp -dsimp
  revert hF;refine abr.sp ?_ ?_<;>intro h1 q2 hF
  ·have z3:((i:Int)<(s.length:Int)):=auz
   have hF:=ob hF;obtain⟨x,e4,hF⟩:=hF
   have le4:=ZD e4
   repeat first|refine cg ?_|simp -dsimp[h1,z3,↓e4]
   have hF:=ob hF;obtain⟨v,e5,hF⟩:=hF
   refine((ih_f46 x v e5)).goW (by first|simp[h1,z3,↓e4];done|simp_all) (by simp) ?_
   repeat first|refine cg ?_|simp -dsimp[h1,z3,↓e4]
   revert hF;refine abr.sp (fun h6 q7 hF=> ?_) (fun h6 q7 hF=> ?_)
   ·cases hF
    repeat first|refine cg ?_|simp -dsimp[h1,z3,↓e4,h6]
    refine Leave.go _ (Gh.refl _) (hq _ ?_)
    repeat first|refine cg ?_|simp -dsimp[h1,z3,↓e4,h6]
   ·have w8:IntKind.i64.wrap ((i:Int)+1)=(i:Int)+1:=ZB (by omega) (by omega)
    repeat first|refine cg ?_|simp -dsimp[h1,z3,↓e4,h6,q7,w8]
    refine Again.go _ ?_ ((ih_f49 s (i+1) o hF) _ rfl _ hq)
    exact(Gh.to3 (by simp) (by first|simp -dsimp[h1,z3,↓e4,h6,q7,w8];done|simp_all))
  ·have z3:¬((i:Int)<(s.length:Int)):=auz
   cases hF
   repeat first|refine cg ?_|simp -dsimp[h1,q2,z3]
   refine Leave.go _ (Gh.to3 (by simp) (by first|simp -dsimp[h1,q2,z3];done|simp_all)) hq
 ·intro _f_f45 ih_f45 y r hF
  refine PureCall.enterLe Try.func50 (by kernel_rfl) rfl Try.ntmps50 (by simp) (by simp) ?_
  repeat first|refine cg ?_|simp -dsimp
  have hF:=ob hF;obtain⟨v,e1,hF⟩:=hF
  refine((ih_f45 y v e1)).goW (by simp) (by simp) ?_
  cases hF
  repeat first|refine cg ?_|simp -dsimp
  all_goals(try first|omega|rfl)
theorem C.f50 (s:List Int)(r:List Int)(hF:F.f50 s=some r):BCall Try.prog B 52 [] [am cI s] (.own 0 (List.length (α:=Int) r)) [.elems 1 (List.map cI r)]:=by
 unfold F.f50 at hF
 have hF:=oc hF;obtain⟨c1,hF⟩:=hF
 cases hF
 cases s with
 |nil=>
  refine BCall.empty1 fun a c=> ?_
  cases a
  ·refine BCall.ofNil 1 (by simp) (by simp) ?_
   refine PureCall.enterLe Try.func52 (by kernel_rfl) rfl Try.ntmps52 (by simp) (by simp) ?_
   repeat first|refine cg ?_|simp -dsimp
  ·refine BCall.enter Try.func52 (by kernel_rfl) rfl Try.ntmps52 (by simp) rfl (by simp) (by simp) (by simp) (by simp) (by simp) (Gh.refl _) ?_
   repeat first|refine cg ?_|simp -dsimp
 |cons x xs=>
  have c1:xs.length+1≤67108864:=by simpa using c1
  refine BCall.enter Try.func52 (by kernel_rfl) rfl Try.ntmps52 (by simp) rfl (by simp) (by simp) (by simp) (by simp) (by simp) (Gh.refl _) ?_
  repeat first|refine cg ?_|simp -dsimp
theorem CC.impl_ownBinds__f_l1 (list:List PathBind):(∀(out:List PathBind) (i:Nat) (o:List PathBind),F.f51 list out i=some o→∀(R:List (List AV)),∀(U:List Value),RW 2 (List.length (α:=PathBind) out) R U→∀(c:Code),ZAC [1,1,0,1,0,0] (ZL Try.f51)=some c→∀(Q:Exit→ASt→Prop),(∀(Rq:List (List AV)) (Uq:List Value),RW 2 (List.length (α:=PathBind) o) Rq Uq→Q (.exit 0) ⟨[(3,.own 2 (List.length (α:=PathBind) o))],[.pack [] [],.elems 0 [],.elems 2 Rq,.pack (List.flatten (List.map PathBind.c o)) Uq]⟩)→ALoopU Try.prog B 0 23 (hold c .mk) ⟨[(3,.own 2 (List.length (α:=PathBind) out)),(6,am PathBind.c list),(7,li (list.length:Int)),(8,li (i:Int))],[.pack [] [],.elems 0 [],.elems 2 R,.pack (List.flatten (List.map PathBind.c out)) U]⟩ (hold Q .mk)):=by
 refine F.f51.partial_correctness list
  _
  ?_
 ·intro _f_impl_ownBinds__f_l1 ih_impl_ownBinds__f_l1 out i o hF
  intro R U H1 c hc Q hq
  obtain rfl:c=_:=ZS hc rfl
  refine ALoopU.know fun hk hs=> ?_
  have b6:=hk 6
  simp -dsimp at b6
  have d2:=hs 2 _ rfl
  simp -dsimp[Blk.bnd]at d2
  clear hk hs
  refine ALoopU.enter ?_
  repeat first|refine cg ?_|simp -dsimp[RW.len H1,RW.closed H1]
  revert hF;refine abr.sp ?_ ?_<;>intro h3 q4 hF
  ·have z5:((i:Int)<(list.length:Int)):=auz
   have hF:=ob hF;obtain⟨x,e6,hF⟩:=hF
   have le6:=ZD e6
   repeat first|refine cg ?_|simp -dsimp[RW.len H1,RW.closed H1,h3,z5,↓e6]
   refine ADraw.eff [52,1000081] [(0,3),(0,1),(0,1),(0,0),(0,0),(0,4),(0,4),(0,4),(0,4),(4,4)] [1,0,2,1,1,1,1,1,1,1] follows (by kernel_rfl) (by kernel_rfl) (by kernel_rfl) ?_
   repeat first|refine cg ?_|simp -dsimp[RW.len H1,RW.closed H1,h3,z5,↓e6]
   have hF:=ob hF;obtain⟨v,e7,hF⟩:=hF
   refine((C.f50 B hB1 hB2 x.path v e7)).ego (pl [5]) (by simp) (by simp) (by intro i j hi;simp at hi) (by intro i hi hi';simp at hi hi';first|omega|(subst hi';simp[pl])) (by first|simp[RW.len H1,RW.closed H1,h3,z5,↓e6];done|simp_all) (by first|simp[RW.len H1,RW.closed H1,h3,z5,↓e6];done|simp_all) ?_
   have hF:=oc hF;obtain⟨c8,hF⟩:=hF
   have w9:IntKind.i64.wrap ((i:Int)+1)=(i:Int)+1:=ZB (by omega) (by omega)
   repeat first|refine cg ?_|simp -dsimp[RW.len H1,RW.closed H1,h3,z5,↓e6,w9]
   refine Again.sealE 2 1 5 (R:=R) (by exact rfl) rfl (by exact rfl) (ZED _) (by simp) (by simp) (by decide) (fun u10 o_u10=> ?_)
   refine Again.go ⟨[(3,.own 2 (List.length (α:=PathBind) (out++[(⟨x.var,v⟩:PathBind)]))),(6,.arr (List.map PathBind.c list)),(7,.lit (.int .i64 (list.length:Int))),(8,.lit (.int .i64 ((i+1):Int)))],[.pack [] [],.elems 0 [],.elems 2 (R++[[.lit (.int .i64 x.var),.lit u10]]),.pack (List.flatten (List.map PathBind.c (out++[(⟨x.var,v⟩:PathBind)]))) (U++[.int .i64 x.var,u10])]⟩ (by refine Gh.trans (Gh.absorb 3 [7] (by exact rfl) (.lit (.int .i64 x.var) (.pk 7 (by exact rfl) .nil)) (by decide)) ?_;exact(Gh.to3 (by simp) (by first|simp -dsimp[RW.len H1,RW.closed H1,h3,z5,↓e6,w9];done|simp_all))) ?_
   exact(ih_impl_ownBinds__f_l1 (out++[(⟨x.var,v⟩:PathBind)]) (i+1) o hF) (R++[[.lit (.int .i64 x.var),.lit u10]]) (U++[.int .i64 x.var,u10]) ((RW.snoc H1 [.int .i64 x.var,u10] rfl).cong (by simp) (by simp) rfl) _ rfl _ hq
  ·have z5:¬((i:Int)<(list.length:Int)):=auz
   cases hF
   repeat first|refine cg ?_|simp -dsimp[RW.len H1,RW.closed H1,h3,q4,z5]
   refine Leave.go ⟨[(3,.own 2 (List.length (α:=PathBind) out))],[.pack [] [],.elems 0 [],.elems 2 R,.pack (List.flatten (List.map PathBind.c out)) U]⟩ (Gh.to3 (by simp) (by first|simp -dsimp[RW.len H1,RW.closed H1,h3,q4,z5];done|simp_all)) ?_
   exact hq R U H1
theorem C.impl_ownBinds__f (list:List PathBind)(r:List PathBind)(hF:F.f52 list=some r):FCall Try.prog B 51 [am PathBind.c list] (am PathBind.c r):=by
 unfold F.f52 at hF
 refine FCall.enterG Try.func51 (by kernel_rfl) rfl Try.ntmps51 (by simp) (Gh.trans (Gh.packZ .nil) Gh.keep) ?_
 repeat first|refine cg ?_|simp -dsimp
 have hF:=ob hF;obtain⟨o',ho11,hF⟩:=hF
 refine ALoop.goU ⟨[(3,.own 2 (List.length (α:=PathBind) [])),(6,.arr (List.map PathBind.c list)),(7,.lit (.int .i64 (list.length:Int))),(8,.lit (.int .i64 0))],[.pack [] [],.elems 0 [],.elems 2 [],.pack (List.flatten (List.map PathBind.c [])) []]⟩ (by refine Gh.trans (Gh.nil 3 2 (by simp -dsimp)) ?_;refine Gh.trans (Gh.packZ .nil) ?_;exact(Gh.to3 (by simp) (by simp -dsimp))) ?_
 refine((CC.impl_ownBinds__f_l1 B hB1 hB2 list) [] 0 o' ho11) [] [] RW.nil _ rfl _ ?_
 intro Rq Uq Hq2
 cases hF
 repeat first|refine cg ?_|simp -dsimp[RW.len Hq2,RW.closed Hq2]
 exact⟨_,by decide,(.cell (.ownP 2 _ 2 rfl (by simp) (.blk 3 rfl .nil) (by simp[Hq2.2.2]) (by simp[Hq2.1]) (by simp) (by simp) .nil) .nil:CT _ _ _ _)⟩
theorem CC.f53 (s1:List Int)(s2:List Int):(∀(i:Nat) (o:Lo Bool Unit),F.f53 s1 s2 i=some o→∀(c:Code),ZAC [1,1,0,1,0,0] (ZL Try.f63)=some c→∀(Q:Exit→ASt→Prop),o.post (fun r=>∀st,ZBb Try.prog Try.f63 (fun r' _=>r'.le (.lit (.bool r))) .ret st→Q .ret st) (fun s=>Q (.exit 0) ⟨[],[]⟩)→ALoopU Try.prog B 0 26 (hold c .mk) ⟨[(0,am cI s1),(1,am cI s2),(12,li (s1.length:Int)),(13,li (i:Int))],[]⟩ (hold Q .mk)):=by
 refine F.f53.partial_correctness s1 s2
  _
  ?_
 ·intro _f_f53 ih_f53 i o hF
  intro c hc Q hq
  obtain rfl:c=_:=ZS hc rfl
  refine ALoopU.know fun hk hs=> ?_
  have b0:=hk 0
  simp -dsimp at b0
  have b1:=hk 1
  simp -dsimp at b1
  clear hk hs
  refine ALoopU.enter ?_
  repeat first|refine cg ?_|simp -dsimp
  revert hF;refine abr.sp ?_ ?_<;>intro h4 q5 hF
  ·have z6:((i:Int)<(s1.length:Int)):=auz
   repeat first|refine cg ?_|simp -dsimp[h4,z6]
   refine ADraw.simple follows (by kernel_rfl) (by kernel_rfl) ?_
   have hF:=ob hF;obtain⟨x,e7,hF⟩:=hF
   have le7:=ZD e7
   have hF:=ob hF;obtain⟨x8,e9,hF⟩:=hF
   have le9:=ZD e9
   repeat first|refine cg ?_|simp -dsimp[h4,z6,↓e7,↓e9]
   revert hF;refine abr.ns ?_ ?_<;>intro h10 q11 hF
   ·cases hF
    repeat first|refine cg ?_|simp -dsimp[h4,z6,↓e7,↓e9,h10,q11]
    refine Leave.go _ (Gh.refl _) (hq _ ?_)
    repeat first|refine cg ?_|simp -dsimp[h4,z6,↓e7,↓e9,h10,q11]
   ·have w12:IntKind.i64.wrap ((i:Int)+1)=(i:Int)+1:=ZB (by omega) (by omega)
    repeat first|refine cg ?_|simp -dsimp[h4,z6,↓e7,↓e9,h10,q11,w12]
    refine Again.go _ ?_ ((ih_f53 (i+1) o hF) _ rfl _ hq)
    exact(Gh.to3 (by simp) (by first|simp -dsimp[h4,z6,↓e7,↓e9,h10,q11,w12];done|simp_all))
  ·have z6:¬((i:Int)<(s1.length:Int)):=auz
   cases hF
   repeat first|refine cg ?_|simp -dsimp[h4,q5,z6]
   refine Leave.go _ (Gh.to3 (by simp) (by first|simp -dsimp[h4,q5,z6];done|simp_all)) hq
theorem C.f54 (s1:List Int)(s2:List Int)(r:Bool)(hF:F.f54 s1 s2=some r):PureCall Try.prog B 63 [am cI s1,am cI s2] (.lit (.bool r)):=by
 unfold F.f54 at hF
 refine PureCall.enterLe Try.func63 (by kernel_rfl) rfl Try.ntmps63 (by simp) (by simp) ?_
 repeat first|refine cg ?_|simp -dsimp
 revert hF;refine abr.ns ?_ ?_<;>intro h1 q2 hF
 ·have z3:¬((s1.length:Int)=(s2.length:Int)):=auz
  cases hF
  repeat first|refine cg ?_|simp -dsimp[h1,q2,z3]
  all_goals(try first|omega|rfl)
 ·have z3:((s1.length:Int)=(s2.length:Int)):=auz
  repeat first|refine cg ?_|simp -dsimp[h1,q2,z3]
  have hF:=ob hF;obtain⟨o',ho13,hF⟩:=hF
  refine ALoop.goU _ ?_ (((CC.f53 B hB1 hB2 s1 s2) 0 o' ho13) _ rfl _ ?_)
  ·exact(Gh.to3 (by simp) (by first|simp -dsimp[h1,q2,z3];done|simp_all))
  rcases o' with r0|sx
  ·dsimp only at hF
   cases hF
   intro st h
   simpa using h
  ·dsimp only at hF
   cases hF
   repeat first|refine cg ?_|simp -dsimp
   all_goals(try first|omega|rfl)
theorem C.f55 (x:PathBind)(y:PathBind)(r:Bool)(hF:F.f55 x y=some r):PureCall Try.prog B 67 [.agg [li x.var,am cI x.path],.agg [li y.var,am cI y.path]] (.lit (.bool r)):=by
 unfold F.f55 at hF
 refine PureCall.enterLe Try.func67 (by kernel_rfl) rfl Try.ntmps67 (by simp) (by simp) ?_
 repeat first|refine cg ?_|simp -dsimp
 revert hF;refine abr.sp ?_ ?_<;>intro h1 q2 hF
 ·repeat first|refine cg ?_|simp -dsimp[h1]
  have hF:=ob hF;obtain⟨v,e3,hF⟩:=hF
  refine((C.f54 B hB1 hB2 x.path y.path v e3)).goW (by first|simp[h1];done|simp_all) (by simp) ?_
  cases hF
  repeat first|refine cg ?_|simp -dsimp[h1]
  all_goals(try first|omega|rfl)
 ·cases hF
  repeat first|refine cg ?_|simp -dsimp[h1,q2]
  all_goals(try first|omega|rfl)
theorem CC.f56 (s1:List PathBind)(s2:List PathBind):(∀(i:Nat) (o:Lo Bool Unit),F.f56 s1 s2 i=some o→∀(c:Code),ZAC [1,1,0,1,0,0] (ZL Try.f66)=some c→∀(Q:Exit→ASt→Prop),o.post (fun r=>∀st,ZBb Try.prog Try.f66 (fun r' _=>r'.le (.lit (.bool r))) .ret st→Q .ret st) (fun s=>Q (.exit 0) ⟨[],[]⟩)→ALoopU Try.prog B 0 32 (hold c .mk) ⟨[(1,am PathBind.c s2),(2,.fn (.func 67) [] []),(15,am PathBind.c s1),(16,li (s1.length:Int)),(17,li (i:Int))],[]⟩ (hold Q .mk)):=by
 refine F.f56.partial_correctness s1 s2
  _
  ?_
 ·intro _f_f56 ih_f56 i o hF
  intro c hc Q hq
  obtain rfl:c=_:=ZS hc rfl
  refine ALoopU.know fun hk hs=> ?_
  have b1:=hk 1
  simp -dsimp at b1
  have b15:=hk 15
  simp -dsimp at b15
  clear hk hs
  refine ALoopU.enter ?_
  repeat first|refine cg ?_|simp -dsimp
  revert hF;refine abr.sp ?_ ?_<;>intro h4 q5 hF
  ·have z6:((i:Int)<(s1.length:Int)):=auz
   have hF:=ob hF;obtain⟨x,e7,hF⟩:=hF
   have le7:=ZD e7
   have hF:=ob hF;obtain⟨x8,e9,hF⟩:=hF
   have le9:=ZD e9
   repeat first|refine cg ?_|simp -dsimp[h4,z6,↓e7,↓e9]
   have hF:=ob hF;obtain⟨v,e10,hF⟩:=hF
   refine((C.f55 B hB1 hB2 x x8 v e10)).goW (by first|simp[h4,z6,↓e7,↓e9];done|simp_all) (by simp) ?_
   repeat first|refine cg ?_|simp -dsimp[h4,z6,↓e7,↓e9]
   revert hF;refine abr.ns (fun h11 q12 hF=> ?_) (fun h11 q12 hF=> ?_)
   ·cases hF
    repeat first|refine cg ?_|simp -dsimp[h4,z6,↓e7,↓e9,h11,q12]
    refine Leave.go _ (Gh.refl _) (hq _ ?_)
    repeat first|refine cg ?_|simp -dsimp[h4,z6,↓e7,↓e9,h11,q12]
   ·have w13:IntKind.i64.wrap ((i:Int)+1)=(i:Int)+1:=ZB (by omega) (by omega)
    repeat first|refine cg ?_|simp -dsimp[h4,z6,↓e7,↓e9,h11,q12,w13]
    refine Again.go _ ?_ ((ih_f56 (i+1) o hF) _ rfl _ hq)
    exact(Gh.to3 (by simp) (by first|simp -dsimp[h4,z6,↓e7,↓e9,h11,q12,w13];done|simp_all))
  ·have z6:¬((i:Int)<(s1.length:Int)):=auz
   cases hF
   repeat first|refine cg ?_|simp -dsimp[h4,q5,z6]
   refine Leave.go _ (Gh.to3 (by simp) (by first|simp -dsimp[h4,q5,z6];done|simp_all)) hq
theorem C.f57 (s1:List PathBind)(s2:List PathBind)(r:Bool)(hF:F.f57 s1 s2=some r):PureCall Try.prog B 66 [am PathBind.c s1,am PathBind.c s2,.fn (.func 67) [] []] (.lit (.bool r)):=by
 unfold F.f57 at hF
 refine PureCall.enterLe Try.func66 (by kernel_rfl) rfl Try.ntmps66 (by simp) (by simp) ?_
 repeat first|refine cg ?_|simp -dsimp
 revert hF;refine abr.ns ?_ ?_<;>intro h1 q2 hF
 ·have z3:¬((s1.length:Int)=(s2.length:Int)):=auz
  cases hF
  repeat first|refine cg ?_|simp -dsimp[h1,q2,z3]
  all_goals(try first|omega|rfl)
 ·have z3:((s1.length:Int)=(s2.length:Int)):=auz
  repeat first|refine cg ?_|simp -dsimp[h1,q2,z3]
  have hF:=ob hF;obtain⟨o',ho14,hF⟩:=hF
  refine ALoop.goU _ ?_ (((CC.f56 B hB1 hB2 s1 s2) 0 o' ho14) _ rfl _ ?_)
  ·exact(Gh.to3 (by simp) (by first|simp -dsimp[h1,q2,z3];done|simp_all))
  rcases o' with r0|sx
  ·dsimp only at hF
   cases hF
   intro st h
   simpa using h
  ·dsimp only at hF
   cases hF
   repeat first|refine cg ?_|simp -dsimp
   all_goals(try first|omega|rfl)
theorem C.f58 (a:List PathBind)(b:List PathBind)(r:Bool)(hF:F.f58 a b=some r):PureCall Try.prog B 62 [am PathBind.c a,am PathBind.c b] (.lit (.bool r)):=by
 unfold F.f58 at hF
 refine PureCall.enterLe Try.func62 (by kernel_rfl) rfl Try.ntmps62 (by simp) (by simp) ?_
 repeat first|refine cg ?_|simp -dsimp
 have hF:=ob hF;obtain⟨v,e1,hF⟩:=hF
 refine((C.f57 B hB1 hB2 a b v e1)).goW (by simp) (by simp) ?_
 cases hF
 repeat first|refine cg ?_|simp -dsimp
 all_goals(try first|omega|rfl)
theorem CC.f59 (s1:List Vl.Edge)(s2:List Vl.Edge):(∀(i:Nat) (o:Lo Bool Unit),F.f59 s1 s2 i=some o→∀(c:Code),ZAC [1,1,0,1,0,0] (ZL Try.f64)=some c→∀(Q:Exit→ASt→Prop),o.post (fun r=>∀st,ZBb Try.prog Try.f64 (fun r' _=>r'.le (.lit (.bool r))) .ret st→Q .ret st) (fun s=>Q (.exit 0) ⟨[],[]⟩)→ALoopU Try.prog B 0 26 (hold c .mk) ⟨[(0,am Vl.Edge.c s1),(1,am Vl.Edge.c s2),(12,li (s1.length:Int)),(13,li (i:Int))],[]⟩ (hold Q .mk)):=by
 refine F.f59.partial_correctness s1 s2
  _
  ?_
 ·intro _f_f59 ih_f59 i o hF
  intro c hc Q hq
  obtain rfl:c=_:=ZS hc rfl
  refine ALoopU.know fun hk hs=> ?_
  have b0:=hk 0
  simp -dsimp at b0
  have b1:=hk 1
  simp -dsimp at b1
  clear hk hs
  refine ALoopU.enter ?_
  repeat first|refine cg ?_|simp -dsimp
  revert hF;refine abr.sp ?_ ?_<;>intro h4 q5 hF
  ·have z6:((i:Int)<(s1.length:Int)):=auz
   repeat first|refine cg ?_|simp -dsimp[h4,z6]
   refine ADraw.simple follows (by kernel_rfl) (by kernel_rfl) ?_
   have hF:=ob hF;obtain⟨x,e7,hF⟩:=hF
   have le7:=ZD e7
   have hF:=ob hF;obtain⟨x8,e9,hF⟩:=hF
   have le9:=ZD e9
   repeat first|refine cg ?_|simp -dsimp[h4,z6,↓e7,↓e9]
   revert hF;refine abr.ns (fun h10 q11 hF=> ?_) (fun h10 q11 hF=> ?_)
   ·cases hF
    repeat first|refine cg ?_|simp -dsimp[h4,z6,↓e7,↓e9,h10,q11]
    refine Leave.go _ (Gh.refl _) (hq _ ?_)
    repeat first|refine cg ?_|simp -dsimp[h4,z6,↓e7,↓e9,h10,q11]
   ·have w12:IntKind.i64.wrap ((i:Int)+1)=(i:Int)+1:=ZB (by omega) (by omega)
    repeat first|refine cg ?_|simp -dsimp[h4,z6,↓e7,↓e9,h10,q11,w12]
    refine Again.go _ ?_ ((ih_f59 (i+1) o hF) _ rfl _ hq)
    exact(Gh.to3 (by simp) (by first|simp -dsimp[h4,z6,↓e7,↓e9,h10,q11,w12];done|simp_all))
  ·have z6:¬((i:Int)<(s1.length:Int)):=auz
   cases hF
   repeat first|refine cg ?_|simp -dsimp[h4,q5,z6]
   refine Leave.go _ (Gh.to3 (by simp) (by first|simp -dsimp[h4,q5,z6];done|simp_all)) hq
theorem C.f60 (s1:List Vl.Edge)(s2:List Vl.Edge)(r:Bool)(hF:F.f60 s1 s2=some r):PureCall Try.prog B 64 [am Vl.Edge.c s1,am Vl.Edge.c s2] (.lit (.bool r)):=by
 unfold F.f60 at hF
 refine PureCall.enterLe Try.func64 (by kernel_rfl) rfl Try.ntmps64 (by simp) (by simp) ?_
 repeat first|refine cg ?_|simp -dsimp
 revert hF;refine abr.ns ?_ ?_<;>intro h1 q2 hF
 ·have z3:¬((s1.length:Int)=(s2.length:Int)):=auz
  cases hF
  repeat first|refine cg ?_|simp -dsimp[h1,q2,z3]
  all_goals(try first|omega|rfl)
 ·have z3:((s1.length:Int)=(s2.length:Int)):=auz
  repeat first|refine cg ?_|simp -dsimp[h1,q2,z3]
  have hF:=ob hF;obtain⟨o',ho13,hF⟩:=hF
  refine ALoop.goU _ ?_ (((CC.f59 B hB1 hB2 s1 s2) 0 o' ho13) _ rfl _ ?_)
  ·exact(Gh.to3 (by simp) (by first|simp -dsimp[h1,q2,z3];done|simp_all))
  rcases o' with r0|sx
  ·dsimp only at hF
   cases hF
   intro st h
   simpa using h
  ·dsimp only at hF
   cases hF
   repeat first|refine cg ?_|simp -dsimp
   all_goals(try first|omega|rfl)
theorem C.f61 (a:Vl.Node)(b:Vl.Node)(r:Bool)(hF:F.f61 a b=some r):PureCall Try.prog B 55 [.agg [li a.op,li a.clause,am PathBind.c a.binds,am cI a.path,am Vl.Edge.c a.edges,li a.els],.agg [li b.op,li b.clause,am PathBind.c b.binds,am cI b.path,am Vl.Edge.c b.edges,li b.els]] (.lit (.bool r)):=by
 unfold F.f61 at hF
 refine PureCall.enterLe Try.func55 (by kernel_rfl) rfl Try.ntmps55 (by simp) (by simp) ?_
 repeat first|refine cg ?_|simp -dsimp
 revert hF;refine abr.sp ?_ ?_<;>intro h1 q2 hF
 ·repeat first|refine cg ?_|simp -dsimp[h1]
  revert hF;refine abr.sp ?_ ?_<;>intro h3 q4 hF
  ·repeat first|refine cg ?_|simp -dsimp[h1,h3]
   have hF:=ob hF;obtain⟨v,e5,hF⟩:=hF
   refine((C.f58 B hB1 hB2 a.binds b.binds v e5)).goW (by first|simp[h1,h3];done|simp_all) (by simp) ?_
   repeat first|refine cg ?_|simp -dsimp[h1,h3]
   revert hF;refine abr.sp (fun h6 q7 hF=> ?_) (fun h6 q7 hF=> ?_)
   ·repeat first|refine cg ?_|simp -dsimp[h1,h3,h6]
    have hF:=ob hF;obtain⟨v8,e9,hF⟩:=hF
    refine((C.f54 B hB1 hB2 a.path b.path v8 e9)).goW (by first|simp[h1,h3,h6];done|simp_all) (by simp) ?_
    repeat first|refine cg ?_|simp -dsimp[h1,h3,h6]
    revert hF;refine abr.sp (fun h10 q11 hF=> ?_) (fun h10 q11 hF=> ?_)
    ·repeat first|refine cg ?_|simp -dsimp[h1,h3,h6,h10]
     have hF:=ob hF;obtain⟨v12,e13,hF⟩:=hF
     refine((C.f60 B hB1 hB2 a.edges b.edges v12 e13)).goW (by first|simp[h1,h3,h6,h10];done|simp_all) (by simp) ?_
     repeat first|refine cg ?_|simp -dsimp[h1,h3,h6,h10]
     revert hF;refine abr.sp (fun h14 q15 hF=> ?_) (fun h14 q15 hF=> ?_)
     ·cases hF
      repeat first|refine cg ?_|simp -dsimp[h1,h3,h6,h10,h14]
      all_goals(try first|omega|rfl)
     ·cases hF
      repeat first|refine cg ?_|simp -dsimp[h1,h3,h6,h10,h14,q15]
      all_goals(try first|omega|rfl)
    ·cases hF
     repeat first|refine cg ?_|simp -dsimp[h1,h3,h6,h10,q11]
     all_goals(try first|omega|rfl)
   ·cases hF
    repeat first|refine cg ?_|simp -dsimp[h1,h3,h6,q7]
    all_goals(try first|omega|rfl)
  ·cases hF
   repeat first|refine cg ?_|simp -dsimp[h1,h3,q4]
   all_goals(try first|omega|rfl)
 ·cases hF
  repeat first|refine cg ?_|simp -dsimp[h1,q2]
  all_goals(try first|omega|rfl)
theorem C.f62 (m:Vl.Node)(a1:Vl.Node)(r:Bool)(hF:F.f62 m a1=some r):PureCall Try.prog B 54 [.agg [li m.op,li m.clause,am PathBind.c m.binds,am cI m.path,am Vl.Edge.c m.edges,li m.els],.rptr [li a1.op,li a1.clause,am PathBind.c a1.binds,am cI a1.path,am Vl.Edge.c a1.edges,li a1.els] 0] (.lit (.bool r)):=by
 unfold F.f62 at hF
 refine PureCall.enterLe Try.func54 (by kernel_rfl) rfl Try.ntmps54 (by simp) (by simp) ?_
 repeat first|refine cg ?_|simp -dsimp
 have hF:=ob hF;obtain⟨v,e1,hF⟩:=hF
 refine((C.f61 B hB1 hB2 m a1 v e1)).goW (by simp) (by simp) ?_
 cases hF
 repeat first|refine cg ?_|simp -dsimp
 all_goals(try first|omega|rfl)
theorem CC.f63 (s:List Vl.Node)(k0:Vl.Node):(∀(i:Nat) (o:Lo Int Unit),F.f63 s k0 i=some o→∀(c:Code),ZAC [1,0,1,0,0] (ZL Try.f53)=some c→∀(Q:Exit→ASt→Prop),o.post (fun r=>∀st,ZBb Try.prog Try.f53 (fun r' _=>r'.le (li r)) .ret st→Q .ret st) (fun s=>Q (.exit 0) ⟨[],[]⟩)→ALoopU Try.prog B 0 19 (hold c .mk) ⟨[(0,am Vl.Node.c s),(1,.fn (.func 54) [] [.rptr [li k0.op,li k0.clause,am PathBind.c k0.binds,am cI k0.path,am Vl.Edge.c k0.edges,li k0.els] 0]),(7,li (s.length:Int)),(8,li (i:Int))],[]⟩ (hold Q .mk)):=by
 refine F.f63.partial_correctness s k0
  _
  ?_
 ·intro _f_f63 ih_f63 i o hF
  intro c hc Q hq
  obtain rfl:c=_:=ZS hc rfl
  refine ALoopU.know fun hk hs=> ?_
  have b0:=hk 0
  simp -dsimp at b0
  clear hk hs
  refine ALoopU.enter ?_
  repeat first|refine cg ?_|simp -dsimp
  revert hF;refine abr.sp ?_ ?_<;>intro h1 q2 hF
  ·have z3:((i:Int)<(s.length:Int)):=auz
   have hF:=ob hF;obtain⟨x,e4,hF⟩:=hF
   have le4:=ZD e4
   repeat first|refine cg ?_|simp -dsimp[h1,z3,↓e4]
   have hF:=ob hF;obtain⟨v,e5,hF⟩:=hF
   refine((C.f62 B hB1 hB2 x k0 v e5)).goW (by first|simp[h1,z3,↓e4];done|simp_all) (by simp) ?_
   repeat first|refine cg ?_|simp -dsimp[h1,z3,↓e4]
   revert hF;refine abr.sp (fun h6 q7 hF=> ?_) (fun h6 q7 hF=> ?_)
   ·cases hF
    repeat first|refine cg ?_|simp -dsimp[h1,z3,↓e4,h6]
    refine Leave.go _ (Gh.refl _) (hq _ ?_)
    repeat first|refine cg ?_|simp -dsimp[h1,z3,↓e4,h6]
   ·have w8:IntKind.i64.wrap ((i:Int)+1)=(i:Int)+1:=ZB (by omega) (by omega)
    repeat first|refine cg ?_|simp -dsimp[h1,z3,↓e4,h6,q7,w8]
    refine Again.go _ ?_ ((ih_f63 (i+1) o hF) _ rfl _ hq)
    exact(Gh.to3 (by simp) (by first|simp -dsimp[h1,z3,↓e4,h6,q7,w8];done|simp_all))
  ·have z3:¬((i:Int)<(s.length:Int)):=auz
   cases hF
   repeat first|refine cg ?_|simp -dsimp[h1,q2,z3]
   refine Leave.go _ (Gh.to3 (by simp) (by first|simp -dsimp[h1,q2,z3];done|simp_all)) hq
theorem C.f64 (s:List Vl.Node)(k0:Vl.Node)(r:Int)(hF:F.f64 s k0=some r):PureCall Try.prog B 53 [am Vl.Node.c s,.fn (.func 54) [] [.rptr [li k0.op,li k0.clause,am PathBind.c k0.binds,am cI k0.path,am Vl.Edge.c k0.edges,li k0.els] 0]] (li r):=by
 unfold F.f64 at hF
 refine PureCall.enterLe Try.func53 (by kernel_rfl) rfl Try.ntmps53 (by simp) (by simp) ?_
 repeat first|refine cg ?_|simp -dsimp
 have hF:=ob hF;obtain⟨o',ho9,hF⟩:=hF
 refine ALoop.goU _ ?_ (((CC.f63 B hB1 hB2 s k0) 0 o' ho9) _ rfl _ ?_)
 ·exact(Gh.to3 (by simp) (by simp -dsimp))
 rcases o' with r0|sx
 ·dsimp only at hF
  cases hF
  intro st h
  simpa using h
 ·dsimp only at hF
  cases hF
  repeat first|refine cg ?_|simp -dsimp
  all_goals(try first|omega|rfl)
theorem CC.impl_share__h  :(∀(x:Tree) (list:List Vl.Node) (r:Int×(List Vl.Node)),F.f65 x list=some r→∀(R:List (List AV)),∀(U:List Go.Value),RW 6 (List.length (α:=Vl.Node) list) R U→DCall Try.prog B 26 [.cells [.own 1 (List.length (α:=Vl.Node) list)],.elems 6 R,.pack (List.flatten (List.map Vl.Node.c list)) U] [.agg [li x.op,li x.clause,am PathBind.c x.binds,am cI x.path,am Branch.c x.branches,am Tree.c x.els],.ptr 0 0] 3 (fun r' τ'=>r'=(li r.1)∧∃(Rq0:List (List AV)) (Uq0:List Go.Value),RW 6 (List.length (α:=Vl.Node) r.2) Rq0 Uq0∧τ'=[.cells [.own 1 (List.length (α:=Vl.Node) r.2)],.elems 6 Rq0,.pack (List.flatten (List.map Vl.Node.c r.2)) Uq0]))∧
  (∀(x:Tree) (v:List PathBind) (v3:List Int) (o':(List Vl.Edge)×(List Vl.Node)) (z:Int) (out23:List Vl.Node) (i27:Nat) (o:Int×(List Vl.Node)),F.f67 x v v3 o' z out23 i27=some o→∀(h:Value),∀(R24:List (List AV)),∀(U25:List Value),ZAO h→RW 6 (List.length (α:=Vl.Node) out23) R24 U25→∀(c:Code),ZAC [1,1,1,0,1,0,0] (ZL Try.f26)=some c→∀(Q:Exit→ASt→Prop),(∀(Rq28:List (List AV)) (Uq29:List Value),RW 6 (List.length (α:=Vl.Node) o.2) Rq28 Uq29→Q (.exit 2) ⟨[(1,.ptr 0 0),(5,.ptr 8 0)],[.cells [.own 1 (List.length (α:=Vl.Node) o.2)],.elems 6 Rq28,.pack (List.flatten (List.map Vl.Node.c o.2)) Uq29,.pack [] [],.elems 0 [],.dead,.pack [am PathBind.c v] [h],.elems 1 (List.map cI v3),.cells [li x.op,li x.clause,.lit h,.own 7 (List.length (α:=Int) v3),.own 9 (List.length (α:=Vl.Edge) o'.1),li o.1],.elems 4 (List.map Vl.Edge.c o'.1)]⟩)→ALoopU Try.prog B 3 78 (hold c .mk) ⟨[(1,.ptr 0 0),(5,.ptr 8 0),(47,am Tree.c x.els),(48,li (x.els.length:Int)),(49,li (i27:Int))],[.cells [.own 1 (List.length (α:=Vl.Node) out23)],.elems 6 R24,.pack (List.flatten (List.map Vl.Node.c out23)) U25,.pack [] [],.elems 0 [],.dead,.pack [am PathBind.c v] [h],.elems 1 (List.map cI v3),.cells [li x.op,li x.clause,.lit h,.own 7 (List.length (α:=Int) v3),.own 9 (List.length (α:=Vl.Edge) o'.1),li z],.elems 4 (List.map Vl.Edge.c o'.1)]⟩ (hold Q .mk))∧
  (∀(x:Tree) (v:List PathBind) (v3:List Int) (out:List Vl.Edge) (out5:List Vl.Node) (i:Nat) (o:(List Vl.Edge)×(List Vl.Node)),F.f66 x v v3 out out5 i=some o→∀(h:Value),∀(R6:List (List AV)),∀(U7:List Value),ZAO h→RW 6 (List.length (α:=Vl.Node) out5) R6 U7→∀(c:Code),ZAC [1,1,0,1,0,0] (ZL Try.f26)=some c→∀(Q:Exit→ASt→Prop),(∀(Rq:List (List AV)) (Uq:List Value),RW 6 (List.length (α:=Vl.Node) o.2) Rq Uq→Q (.exit 0) ⟨[(1,.ptr 0 0),(2,.ptr 5 0),(5,.ptr 8 0)],[.cells [.own 1 (List.length (α:=Vl.Node) o.2)],.elems 6 Rq,.pack (List.flatten (List.map Vl.Node.c o.2)) Uq,.pack [] [],.elems 0 [],.cells [li x.op,li x.clause,am PathBind.c x.binds,am cI x.path,am Branch.c x.branches,am Tree.c x.els],.pack [am PathBind.c v] [h],.elems 1 (List.map cI v3),.cells [li x.op,li x.clause,.lit h,.own 7 (List.length (α:=Int) v3),.own 9 (List.length (α:=Vl.Edge) o.1),li (-1)],.elems 4 (List.map Vl.Edge.c o.1)]⟩)→ALoopU Try.prog B 3 78 (hold c .mk) ⟨[(1,.ptr 0 0),(2,.ptr 5 0),(5,.ptr 8 0),(23,am Branch.c x.branches),(24,li (x.branches.length:Int)),(25,li (i:Int))],[.cells [.own 1 (List.length (α:=Vl.Node) out5)],.elems 6 R6,.pack (List.flatten (List.map Vl.Node.c out5)) U7,.pack [] [],.elems 0 [],.cells [li x.op,li x.clause,am PathBind.c x.binds,am cI x.path,am Branch.c x.branches,am Tree.c x.els],.pack [am PathBind.c v] [h],.elems 1 (List.map cI v3),.cells [li x.op,li x.clause,.lit h,.own 7 (List.length (α:=Int) v3),.own 9 (List.length (α:=Vl.Edge) out),li (-1)],.elems 4 (List.map Vl.Edge.c out)]⟩ (hold Q .mk)):=by
 refine F.f65.mutual_partial_correctness 
  _ _ _
  ?_ ?_ ?_
 ·intro _f_impl_share__h_l2 _f_impl_share__h_l1 ih_impl_share__h_l2 ih_impl_share__h_l1 x list r hF
  intro R U H1
  refine DCall.enter Try.func26 (by kernel_rfl) rfl Try.ntmps26 (by simp) rfl (by simp[RW.closed H1]) (by simp) (by rintro _ _ ⟨rfl,Rq0,Uq0,Hq0,rfl⟩;exact⟨by simp,by simp[RW.closed Hq0],rfl,by simp[ZAb,RW.purss Hq0]⟩) (by simp) (Gh.trans (Gh.packZ .nil) Gh.keep) ?_
  repeat first|refine cg ?_|simp -dsimp[RW.len H1,RW.closed H1]
  refine ADraw.opn ?_
  refine ADraw.split [] [(6,11)] [(11,6)] 6 11 rfl rfl (by kernel_rfl) ?_ ?_
  ·refine ADraw.effNLP [(6,11)] [0,1,2,3,4,5,7,8,6,9,10,11,12] [(8,11),(9,11),(10,11)] 11 11 [51,52,1000060] [(0,2),(0,2),(0,2),(0,2),(0,0),(0,0),(0,1),(0,1),(0,5),(0,5),(0,5),(0,5),(0,5)] [0,2,0,2,1,1,0,2,1,1,1,1,1] 8 (by decide) follows (by kernel_rfl) (by kernel_rfl) (by kernel_rfl) (by kernel_rfl) (by kernel_rfl) (by kernel_rfl) (by kernel_rfl) (by kernel_rfl) rfl rfl (by intro d hd;cases hd;rfl) (by intro t i h k;cases h;cases k;rfl) ?_
   intro L hL
   simp only[ZCu,ZCI,List.getD_cons_zero,List.getD_cons_succ,List.toList_toArray]at hL
   subst hL
   repeat first|refine cg ?_|simp -dsimp[RW.len H1,RW.closed H1]
   have hF:=ob hF;obtain⟨v,e2,hF⟩:=hF
   refine((C.impl_ownBinds__f B hB1 hB2 x.binds v e2)).ngo1 (by first|simp -dsimp[RW.len H1,RW.closed H1];done|simp_all) (by simp) (fun h o_h=> ?_)
   repeat first|refine cg ?_|simp -dsimp[RW.len H1,RW.closed H1,o_h]
   have hF:=ob hF;obtain⟨v3,e4,hF⟩:=hF
   refine((C.f50 B hB1 hB2 x.path v3 e4)).ego (pl [7]) (by simp) (by simp) (by intro i j hi;simp at hi) (by intro i hi hi';simp at hi hi';first|omega|(subst hi';simp[pl])) (by first|simp[RW.len H1,RW.closed H1,o_h];done|simp_all) (by first|simp[RW.len H1,RW.closed H1,o_h];done|simp_all) ?_
   repeat first|refine cg ?_|simp -dsimp[RW.len H1,RW.closed H1,o_h]
   have hF:=ob hF;obtain⟨o',ho22,hF⟩:=hF
   refine ALoop.goU ⟨[(1,.ptr 0 0),(2,.ptr 5 0),(5,.ptr 8 0),(23,.arr (List.map Branch.c x.branches)),(24,.lit (.int .i64 (x.branches.length:Int))),(25,.lit (.int .i64 0))],[.cells [.own 1 (List.length (α:=Vl.Node) list)],.elems 6 R,.pack (List.flatten (List.map Vl.Node.c list)) U,.pack [] [],.elems 0 [],.cells [.lit (.int .i64 x.op),.lit (.int .i64 x.clause),.arr (List.map PathBind.c x.binds),.arr (List.map cI x.path),.arr (List.map Branch.c x.branches),.arr (List.map Tree.c x.els)],.pack [.arr (List.map PathBind.c v)] [h],.elems 1 (List.map cI v3),.cells [.lit (.int .i64 x.op),.lit (.int .i64 x.clause),.lit h,.own 7 (List.length (α:=Int) v3),.own 9 (List.length (α:=Vl.Edge) []),.lit (.int .i64 (-1))],.elems 4 (List.map Vl.Edge.c [])]⟩ (by refine Gh.trans (Gh.nilCell 8 4 4 (by simp -dsimp;rfl) (by simp -dsimp)) ?_;exact(Gh.to3 (by simp) (by first|simp -dsimp[RW.len H1,RW.closed H1,o_h];done|simp_all))) ?_
   refine(ih_impl_share__h_l1 x v v3 [] list 0 o' ho22) h R U o_h H1 _ rfl _ ?_
   intro Rq Uq Hq9
   repeat first|refine cg ?_|simp -dsimp[o_h,RW.len Hq9,RW.closed Hq9]
   have hF:=ob hF;obtain⟨o'43,ho42,hF⟩:=hF
   refine ALoop.goU _ ?_ ((ih_impl_share__h_l2 x v v3 o' (-1) o'.2 0 o'43 ho42) h Rq Uq o_h Hq9 _ rfl _ ?_)
   ·exact(Gh.to3 (by simp) (by first|simp -dsimp[o_h,RW.len Hq9,RW.closed Hq9];done|simp_all))
   intro Rq28 Uq29 Hq30
   repeat first|refine cg ?_|simp -dsimp[o_h,RW.len Hq30,RW.closed Hq30]
   have hF:=ob hF;obtain⟨v44,e45,hF⟩:=hF
   refine((C.f64 B hB1 hB2 o'43.2 (⟨x.op,x.clause,v,v3,o'.1,o'43.1⟩:Vl.Node) v44 e45)).lendD (.cons (.deep 1 2 _ 6 (by exact rfl) (by exact rfl) rfl Hq30.2.2 Hq30.1 (by simp) (by simp)) (.cons (.fn _ .nil (.cons (.ptr 8 0 (by exact rfl) (.cons (.of (by simp)) (.cons (.of (by simp)) (.cons (.of (by exact .inr (by simp))) (.cons (.of (by exact⟨1,rfl,by simp,by simp⟩)) (.cons (.of (by exact⟨4,rfl,by simp,by simp⟩)) (.cons (.of (by simp)) .nil))))))) .nil)) .nil)) (by simp -dsimp) ?_
   repeat first|refine cg ?_|simp -dsimp[o_h,RW.len Hq30,RW.closed Hq30]
   revert hF;refine abr.sp ?_ ?_<;>intro h46 q47 hF
   ·repeat first|refine cg ?_|simp -dsimp[o_h,RW.len Hq30,RW.closed Hq30,h46]
    refine ADraw.eff [] [(0,2),(0,1),(0,1),(0,1),(0,0),(0,3),(0,3),(2,2),(0,3)] [1,1,0,2,1,1,1,1,1] follows (by kernel_rfl) (by kernel_rfl) (by kernel_rfl) ?_
    have hF:=oc hF;obtain⟨c48,hF⟩:=hF
    cases hF
    repeat first|refine cg ?_|simp -dsimp[o_h,RW.len Hq30,RW.closed Hq30,h46]
    refine LeaveD.sealE 1 3 7 (R:=Rq28) (by exact rfl) rfl (by exact rfl) (ZED _) (by simp) (by simp) (by decide) (fun u49 o_u49=> ?_)
    refine LeaveD.sealE 1 4 9 (R:=Rq28) (by exact rfl) rfl (by exact rfl) (Vl.Edge.lits_c _) (by simp) (by simp) (by decide) (fun u50 o_u50=> ?_)
    refine LeaveD.go _ (Gh.absorb 2 [6,11,12] (by exact rfl) (.lit (.int .i64 x.op) (.lit (.int .i64 x.clause) (.pk 6 (by exact rfl) (.pk 11 (by exact rfl) (.pk 12 (by exact rfl) (.lit (.int .i64 o'43.1) .nil)))))) (by decide)) ?_
    repeat first|refine cg ?_|simp -dsimp[o_h,RW.len Hq30,RW.closed Hq30,h46]
    exact LeaveD.fin ⟨rfl,_,_,((RW.snoc Hq30 [.int .i64 x.op,.int .i64 x.clause,h,u49,u50,.int .i64 o'43.1] rfl).cong (by simp) rfl rfl),rfl⟩ (by first|rfl|simp) (by simp)
   ·cases hF
    repeat first|refine cg ?_|simp -dsimp[o_h,RW.len Hq30,RW.closed Hq30,h46,q47]
    refine LeaveD.go _ (Gh.refl _) ?_
    repeat first|refine cg ?_|simp -dsimp[o_h,RW.len Hq30,RW.closed Hq30,h46,q47]
    exact LeaveD.fin ⟨rfl,_,_,Hq30,rfl⟩ (by first|rfl|simp) (by simp)
  ·have hF:=ob hF;obtain⟨v,e2,hF⟩:=hF
   have hF:=ob hF;obtain⟨v3,e4,hF⟩:=hF
   refine ADraw.postE ?_
   refine ADraw.effNP [(11,6)] [0,1,2,3,4,5,7,8,11,6,9,10,12] [51,52,1000060] [(0,3),(0,3),(0,3),(0,3),(0,1),(0,1),(0,2),(0,2),(0,5),(0,5),(0,5),(0,5),(0,5)] [0,2,0,2,0,2,0,2,1,1,1,1,1] 9 (by decide) follows (by kernel_rfl) (by kernel_rfl) (by kernel_rfl) (by kernel_rfl) (by kernel_rfl) (by kernel_rfl) rfl ?_
   intro L hL
   simp only[ZCu,ZCI,List.getD_cons_zero,List.getD_cons_succ,List.toList_toArray]at hL
   subst hL
   repeat first|refine cg ?_|simp -dsimp[RW.len H1,RW.closed H1]
   refine((C.impl_ownBinds__f B hB1 hB2 x.binds v e2)).ngo1 (by first|simp -dsimp[RW.len H1,RW.closed H1];done|simp_all) (by simp) (fun h o_h=> ?_)
   repeat first|refine cg ?_|simp -dsimp[RW.len H1,RW.closed H1,o_h]
   refine((C.f50 B hB1 hB2 x.path v3 e4)).ego (pl [8]) (by simp) (by simp) (by intro i j hi;simp at hi) (by intro i hi hi';simp at hi hi';first|omega|(subst hi';simp[pl])) (by first|simp[RW.len H1,RW.closed H1,o_h];done|simp_all) (by first|simp[RW.len H1,RW.closed H1,o_h];done|simp_all) ?_
   repeat first|refine cg ?_|simp -dsimp[RW.len H1,RW.closed H1,o_h]
   refine GhK.go (Gh.trans (Gh.swap 6 8 (by decide) (by decide) (by simp) (by simp) (by simp[RW.purss H1])) (Gh.swap 6 7 (by decide) (by decide) (by simp) (by simp) (by simp[RW.purss H1]))) ?_
   repeat first|refine cg ?_|simp -dsimp[RW.len H1,RW.closed H1,o_h]
   have hF:=ob hF;obtain⟨o',ho22,hF⟩:=hF
   refine ALoop.goU ⟨[(1,.ptr 0 0),(2,.ptr 5 0),(5,.ptr 8 0),(23,.arr (List.map Branch.c x.branches)),(24,.lit (.int .i64 (x.branches.length:Int))),(25,.lit (.int .i64 0))],[.cells [.own 1 (List.length (α:=Vl.Node) list)],.elems 6 R,.pack (List.flatten (List.map Vl.Node.c list)) U,.pack [] [],.elems 0 [],.cells [.lit (.int .i64 x.op),.lit (.int .i64 x.clause),.arr (List.map PathBind.c x.binds),.arr (List.map cI x.path),.arr (List.map Branch.c x.branches),.arr (List.map Tree.c x.els)],.pack [.arr (List.map PathBind.c v)] [h],.elems 1 (List.map cI v3),.cells [.lit (.int .i64 x.op),.lit (.int .i64 x.clause),.lit h,.own 7 (List.length (α:=Int) v3),.own 9 (List.length (α:=Vl.Edge) []),.lit (.int .i64 (-1))],.elems 4 (List.map Vl.Edge.c [])]⟩ (by refine Gh.trans (Gh.nilCell 8 4 4 (by simp -dsimp;rfl) (by simp -dsimp)) ?_;exact(Gh.to3 (by simp) (by first|simp -dsimp[RW.len H1,RW.closed H1,o_h];done|simp_all))) ?_
   refine(ih_impl_share__h_l1 x v v3 [] list 0 o' ho22) h R U o_h H1 _ rfl _ ?_
   intro Rq Uq Hq9
   repeat first|refine cg ?_|simp -dsimp[o_h,RW.len Hq9,RW.closed Hq9]
   have hF:=ob hF;obtain⟨o'43,ho42,hF⟩:=hF
   refine ALoop.goU _ ?_ ((ih_impl_share__h_l2 x v v3 o' (-1) o'.2 0 o'43 ho42) h Rq Uq o_h Hq9 _ rfl _ ?_)
   ·exact(Gh.to3 (by simp) (by first|simp -dsimp[o_h,RW.len Hq9,RW.closed Hq9];done|simp_all))
   intro Rq28 Uq29 Hq30
   repeat first|refine cg ?_|simp -dsimp[o_h,RW.len Hq30,RW.closed Hq30]
   have hF:=ob hF;obtain⟨v44,e45,hF⟩:=hF
   refine((C.f64 B hB1 hB2 o'43.2 (⟨x.op,x.clause,v,v3,o'.1,o'43.1⟩:Vl.Node) v44 e45)).lendD (.cons (.deep 1 2 _ 6 (by exact rfl) (by exact rfl) rfl Hq30.2.2 Hq30.1 (by simp) (by simp)) (.cons (.fn _ .nil (.cons (.ptr 8 0 (by exact rfl) (.cons (.of (by simp)) (.cons (.of (by simp)) (.cons (.of (by exact .inr (by simp))) (.cons (.of (by exact⟨1,rfl,by simp,by simp⟩)) (.cons (.of (by exact⟨4,rfl,by simp,by simp⟩)) (.cons (.of (by simp)) .nil))))))) .nil)) .nil)) (by simp -dsimp) ?_
   repeat first|refine cg ?_|simp -dsimp[o_h,RW.len Hq30,RW.closed Hq30]
   revert hF;refine abr.sp ?_ ?_<;>intro h46 q47 hF
   ·repeat first|refine cg ?_|simp -dsimp[o_h,RW.len Hq30,RW.closed Hq30,h46]
    refine ADraw.eff [] [(0,2),(0,1),(0,1),(0,1),(0,0),(0,3),(0,3),(2,2),(0,3)] [1,1,0,2,1,1,1,1,1] follows (by kernel_rfl) (by kernel_rfl) (by kernel_rfl) ?_
    have hF:=oc hF;obtain⟨c48,hF⟩:=hF
    cases hF
    repeat first|refine cg ?_|simp -dsimp[o_h,RW.len Hq30,RW.closed Hq30,h46]
    refine LeaveD.sealE 1 3 7 (R:=Rq28) (by exact rfl) rfl (by exact rfl) (ZED _) (by simp) (by simp) (by decide) (fun u49 o_u49=> ?_)
    refine LeaveD.sealE 1 4 9 (R:=Rq28) (by exact rfl) rfl (by exact rfl) (Vl.Edge.lits_c _) (by simp) (by simp) (by decide) (fun u50 o_u50=> ?_)
    refine LeaveD.go _ (Gh.absorb 2 [6,11,12] (by exact rfl) (.lit (.int .i64 x.op) (.lit (.int .i64 x.clause) (.pk 6 (by exact rfl) (.pk 11 (by exact rfl) (.pk 12 (by exact rfl) (.lit (.int .i64 o'43.1) .nil)))))) (by decide)) ?_
    repeat first|refine cg ?_|simp -dsimp[o_h,RW.len Hq30,RW.closed Hq30,h46]
    exact LeaveD.fin ⟨rfl,_,_,((RW.snoc Hq30 [.int .i64 x.op,.int .i64 x.clause,h,u49,u50,.int .i64 o'43.1] rfl).cong (by simp) rfl rfl),rfl⟩ (by first|rfl|simp) (by simp)
   ·cases hF
    repeat first|refine cg ?_|simp -dsimp[o_h,RW.len Hq30,RW.closed Hq30,h46,q47]
    refine LeaveD.go _ (Gh.refl _) ?_
    repeat first|refine cg ?_|simp -dsimp[o_h,RW.len Hq30,RW.closed Hq30,h46,q47]
    exact LeaveD.fin ⟨rfl,_,_,Hq30,rfl⟩ (by first|rfl|simp) (by simp)
 ·intro _f_impl_share__h _f_impl_share__h_l2 ih_impl_share__h ih_impl_share__h_l2 x v v3 o' z out23 i27 o hF
  intro h R24 U25 o_h H26 c hc Q hq
  obtain rfl:c=_:=ZS hc rfl
  refine ALoopU.know fun hk hs=> ?_
  have b47:=hk 47
  simp -dsimp at b47
  have d1:=hs 1 _ rfl
  simp -dsimp[Blk.bnd]at d1
  have d7:=hs 7 _ rfl
  simp -dsimp[Blk.bnd]at d7
  have d9:=hs 9 _ rfl
  simp -dsimp[Blk.bnd]at d9
  clear hk hs
  refine ALoopU.enter ?_
  repeat first|refine cg ?_|simp -dsimp[o_h,RW.len H26,RW.closed H26]
  revert hF;refine abr.sp ?_ ?_<;>intro h31 q32 hF
  ·have z33:((i27:Int)<(x.els.length:Int)):=auz
   have hF:=ob hF;obtain⟨x34,e35,hF⟩:=hF
   have le35:=ZD e35
   repeat first|refine cg ?_|simp -dsimp[o_h,RW.len H26,RW.closed H26,h31,z33,↓e35]
   have hF:=ob hF;obtain⟨v36,e37,hF⟩:=hF
   refine((ih_impl_share__h x34 out23 v36 e37) R24 U25 H26).go (pl [0,1,2]) (by simp[ZAb,RW.purss H26]) (ZHK _ rfl (by decide)) (by intro i hi hi';simp at hi hi';omega) (by first|simp[o_h,RW.len H26,RW.closed H26,h31,z33,↓e35,RW.len H40,RW.closed H40];done|simp_all) (by first|simp[o_h,RW.len H26,RW.closed H26,h31,z33,↓e35,RW.len H40,RW.closed H40];done|simp_all) ?_
   rintro _ _ ⟨rfl,R38,U39,H40,rfl⟩
   have w41:IntKind.i64.wrap ((i27:Int)+1)=(i27:Int)+1:=ZB (by omega) (by omega)
   repeat first|refine cg ?_|simp -dsimp[o_h,RW.len H26,RW.closed H26,h31,z33,↓e35,RW.len H40,RW.closed H40,w41]
   refine Again.go _ ?_ ((ih_impl_share__h_l2 x v v3 o' v36.1 v36.2 (i27+1) o hF) h R38 U39 o_h H40 _ rfl _ hq)
   exact(Gh.to3 (by simp) (by first|simp -dsimp[o_h,RW.len H26,RW.closed H26,h31,z33,↓e35,RW.len H40,RW.closed H40,w41];done|simp_all))
  ·have z33:¬((i27:Int)<(x.els.length:Int)):=auz
   cases hF
   repeat first|refine cg ?_|simp -dsimp[o_h,RW.len H26,RW.closed H26,h31,q32,z33]
   refine Leave.go ⟨[(1,.ptr 0 0),(5,.ptr 8 0)],[.cells [.own 1 (List.length (α:=Vl.Node) out23)],.elems 6 R24,.pack (List.flatten (List.map Vl.Node.c out23)) U25,.pack [] [],.elems 0 [],.dead,.pack [.arr (List.map PathBind.c v)] [h],.elems 1 (List.map cI v3),.cells [.lit (.int .i64 x.op),.lit (.int .i64 x.clause),.lit h,.own 7 (List.length (α:=Int) v3),.own 9 (List.length (α:=Vl.Edge) o'.1),.lit (.int .i64 z)],.elems 4 (List.map Vl.Edge.c o'.1)]⟩ (Gh.to3 (by simp) (by first|simp -dsimp[o_h,RW.len H26,RW.closed H26,h31,q32,z33];done|simp_all)) ?_
   exact hq R24 U25 H26
 ·intro _f_impl_share__h _f_impl_share__h_l1 ih_impl_share__h ih_impl_share__h_l1 x v v3 out out5 i o hF
  intro h R6 U7 o_h H8 c hc Q hq
  obtain rfl:c=_:=ZS hc rfl
  refine ALoopU.know fun hk hs=> ?_
  have b23:=hk 23
  simp -dsimp at b23
  have d1:=hs 1 _ rfl
  simp -dsimp[Blk.bnd]at d1
  have d5:=hs 5 _ rfl
  simp -dsimp[Blk.bnd]at d5
  have d7:=hs 7 _ rfl
  simp -dsimp[Blk.bnd]at d7
  have d9:=hs 9 _ rfl
  simp -dsimp[Blk.bnd]at d9
  clear hk hs
  refine ALoopU.enter ?_
  repeat first|refine cg ?_|simp -dsimp[o_h,RW.len H8,RW.closed H8]
  revert hF;refine abr.sp ?_ ?_<;>intro h10 q11 hF
  ·have z12:((i:Int)<(x.branches.length:Int)):=auz
   have hF:=ob hF;obtain⟨x13,e14,hF⟩:=hF
   have le14:=ZD e14
   repeat first|refine cg ?_|simp -dsimp[o_h,RW.len H8,RW.closed H8,h10,z12,↓e14]
   refine ADraw.effN2 [26] [(0,2),(0,2),(0,1),(0,1),(0,1),(0,1),(0,1),(0,1),(0,0),(0,0),(0,0),(0,4),(1,1),(0,4),(0,4),(3,3),(0,4)] [0,2,0,2,0,2,0,2,1,1,1,1,1,1,1,1,1] 11 (by decide) follows (by kernel_rfl) (by kernel_rfl) (by kernel_rfl) (by kernel_rfl) (by kernel_rfl) rfl ?_
   repeat first|refine cg ?_|simp -dsimp[o_h,RW.len H8,RW.closed H8,h10,z12,↓e14]
   have hF:=ob hF;obtain⟨v15,e16,hF⟩:=hF
   refine((ih_impl_share__h x13.tree out5 v15 e16) R6 U7 H8).ngo ⟨_,_,rfl,_,_,RW.any _ _,rfl⟩ (pl [0,1,2]) (by simp[ZAb,RW.purss H8]) (ZHK _ rfl (by decide)) (by intro i hi hi';simp at hi hi';omega) (by first|simp[o_h,RW.len H8,RW.closed H8,h10,z12,↓e14,RW.len H19,RW.closed H19];done|simp_all) (by first|simp[o_h,RW.len H8,RW.closed H8,h10,z12,↓e14,RW.len H19,RW.closed H19];done|simp_all) ?_
   rintro _ _ ⟨rfl,R17,U18,H19,rfl⟩
   have hF:=oc hF;obtain⟨c20,hF⟩:=hF
   have w21:IntKind.i64.wrap ((i:Int)+1)=(i:Int)+1:=ZB (by omega) (by omega)
   repeat first|refine cg ?_|simp -dsimp[o_h,RW.len H8,RW.closed H8,h10,z12,↓e14,RW.len H19,RW.closed H19,w21]
   refine Again.go _ ?_ ((ih_impl_share__h_l1 x v v3 (out++[(⟨x13.ctor,x13.n,x13.m,v15.1⟩:Vl.Edge)]) v15.2 (i+1) o hF) h R17 U18 o_h H19 _ rfl _ hq)
   exact(Gh.to3 (by simp) (by first|simp -dsimp[o_h,RW.len H8,RW.closed H8,h10,z12,↓e14,RW.len H19,RW.closed H19,w21];done|simp_all))
  ·have z12:¬((i:Int)<(x.branches.length:Int)):=auz
   cases hF
   repeat first|refine cg ?_|simp -dsimp[o_h,RW.len H8,RW.closed H8,h10,q11,z12]
   refine Leave.go ⟨[(1,.ptr 0 0),(2,.ptr 5 0),(5,.ptr 8 0)],[.cells [.own 1 (List.length (α:=Vl.Node) out5)],.elems 6 R6,.pack (List.flatten (List.map Vl.Node.c out5)) U7,.pack [] [],.elems 0 [],.cells [.lit (.int .i64 x.op),.lit (.int .i64 x.clause),.arr (List.map PathBind.c x.binds),.arr (List.map cI x.path),.arr (List.map Branch.c x.branches),.arr (List.map Tree.c x.els)],.pack [.arr (List.map PathBind.c v)] [h],.elems 1 (List.map cI v3),.cells [.lit (.int .i64 x.op),.lit (.int .i64 x.clause),.lit h,.own 7 (List.length (α:=Int) v3),.own 9 (List.length (α:=Vl.Edge) out),.lit (.int .i64 (-1))],.elems 4 (List.map Vl.Edge.c out)]⟩ (Gh.to3 (by simp) (by first|simp -dsimp[o_h,RW.len H8,RW.closed H8,h10,q11,z12];done|simp_all)) ?_
   exact hq R6 U7 H8
theorem C.impl_ShareTree__f (x:Tree)(r:(List Vl.Node)×Bool)(hF:F.f68 x=some r):FCall Try.prog B 7 [.agg [li x.op,li x.clause,am PathBind.c x.binds,am cI x.path,am Branch.c x.branches,am Tree.c x.els]] (.tup [am Vl.Node.c r.1,.lit (.bool r.2)]):=by
 unfold F.f68 at hF
 refine FCall.enterG Try.func7 (by kernel_rfl) rfl Try.ntmps7 (by simp) (Gh.packZ .nil) ?_
 repeat first|refine cg ?_|simp -dsimp
 have hF:=ob hF;obtain⟨v,e1,hF⟩:=hF
 refine(((CC.f42 B hB1 hB2).1 x v e1)).goW (by simp) (by simp) ?_
 repeat first|refine cg ?_|simp -dsimp
 revert hF;refine abr.ns ?_ ?_<;>intro h2 q3 hF
 ·repeat first|refine cg ?_|simp -dsimp[h2,q3]
  have hF:=ob hF;obtain⟨v4,e5,hF⟩:=hF
  refine(((CC.f45 B hB1 hB2).1 x v4 e5)).goW (by first|simp[h2,q3];done|simp_all) (by simp) ?_
  repeat first|refine cg ?_|simp -dsimp[h2,q3]
  revert hF;refine abr.ns (fun h6 q7 hF=> ?_) (fun h6 q7 hF=> ?_)
  ·cases hF
   repeat first|refine cg ?_|simp -dsimp[h2,q3,h6,q7]
   exact⟨_,by decide,(.cell (.nilS none 0 .nil) (.cell (.lit _ .nil) .nil):CT _ _ _ _)⟩
  ·repeat first|refine cg ?_|simp -dsimp[h2,q3,h6,q7]
   have hF:=ob hF;obtain⟨v8,e9,hF⟩:=hF
   refine ACall.gh _ (fun nb N fr=>by refine Gh.trans (Gh.nilCell 2 0 6 (by simp -dsimp;rfl) (by simp -dsimp)) ?_;refine Gh.trans (Gh.packZ .nil) ?_;exact Gh.refl _) ?_
   repeat first|refine cg ?_|simp -dsimp[h2,q3,h6,q7]
   refine(((CC.impl_share__h B hB1 hB2).1 x [] v8 e9) [] [] RW.nil).go (pl [2,3,4]) (by simp[ZAb,RW.purss RW.nil]) (ZHK _ rfl (by decide)) (by intro i hi hi';simp at hi hi';omega) (by first|simp[h2,q3,h6,q7,RW.len H10,RW.closed H10];done|simp_all) (by first|simp[h2,q3,h6,q7,RW.len H10,RW.closed H10];done|simp_all) ?_
   rintro _ _ ⟨rfl,R,U,H10,rfl⟩
   cases hF
   repeat first|refine cg ?_|simp -dsimp[h2,q3,h6,q7,RW.len H10,RW.closed H10]
   exact⟨_,by decide,(.cell (.ownP 3 _ 6 rfl (by simp) (.blk 4 rfl .nil) (by simp[H10.2.2]) (by simp[H10.1]) (by simp) (by simp) .nil) (.cell (.lit _ .nil) .nil):CT _ _ _ _)⟩
 ·cases hF
  repeat first|refine cg ?_|simp -dsimp[h2,q3]
  exact⟨_,by decide,(.cell (.nilS none 0 .nil) (.cell (.lit _ .nil) .nil):CT _ _ _ _)⟩
theorem CC.f69 (a:List Int)(b:List Int):(∀(i:Nat) (o:Lo Bool Unit),F.f69 a b i=some o→∀(c:Code),ZAC [1,1,0,1,0,0] (ZL Try.f29)=some c→∀(Q:Exit→ASt→Prop),o.post (fun r=>∀st,ZBb Try.prog Try.f29 (fun r' _=>r'.le (.lit (.bool r))) .ret st→Q .ret st) (fun s=>Q (.exit 0) ⟨[],[]⟩)→ALoopU Try.prog B 0 26 (hold c .mk) ⟨[(0,am cI a),(1,am cI b),(5,li (i:Int))],[]⟩ (hold Q .mk)):=by
 refine F.f69.partial_correctness a b
  _
  ?_
 ·intro _f_f69 ih_f69 i o hF
  intro c hc Q hq
  obtain rfl:c=_:=ZS hc rfl
  refine ALoopU.know fun hk hs=> ?_
  have b0:=hk 0
  simp -dsimp at b0
  have b1:=hk 1
  simp -dsimp at b1
  clear hk hs
  refine ALoopU.enter ?_
  repeat first|refine cg ?_|simp -dsimp
  revert hF;refine abr.sp ?_ ?_<;>intro h4 q5 hF
  ·have z6:((i:Int)<(a.length:Int)):=auz
   repeat first|refine cg ?_|simp -dsimp[h4,z6]
   refine ADraw.simple follows (by kernel_rfl) (by kernel_rfl) ?_
   have hF:=ob hF;obtain⟨x,e7,hF⟩:=hF
   have le7:=ZD e7
   have hF:=ob hF;obtain⟨x8,e9,hF⟩:=hF
   have le9:=ZD e9
   repeat first|refine cg ?_|simp -dsimp[h4,z6,↓e7,↓e9]
   revert hF;refine abr.ns ?_ ?_<;>intro h10 q11 hF
   ·cases hF
    repeat first|refine cg ?_|simp -dsimp[h4,z6,↓e7,↓e9,h10,q11]
    refine Leave.go _ (Gh.refl _) (hq _ ?_)
    repeat first|refine cg ?_|simp -dsimp[h4,z6,↓e7,↓e9,h10,q11]
   ·have w12:IntKind.i64.wrap ((i:Int)+1)=(i:Int)+1:=ZB (by omega) (by omega)
    repeat first|refine cg ?_|simp -dsimp[h4,z6,↓e7,↓e9,h10,q11,w12]
    refine Again.go _ ?_ ((ih_f69 (i+1) o hF) _ rfl _ hq)
    exact(Gh.to3 (by simp) (by first|simp -dsimp[h4,z6,↓e7,↓e9,h10,q11,w12];done|simp_all))
  ·have z6:¬((i:Int)<(a.length:Int)):=auz
   cases hF
   repeat first|refine cg ?_|simp -dsimp[h4,q5,z6]
   refine Leave.go _ (Gh.to3 (by simp) (by first|simp -dsimp[h4,q5,z6];done|simp_all)) hq
theorem C.f70 (a:List Int)(b:List Int)(r:Bool)(hF:F.f70 a b=some r):PureCall Try.prog B 29 [am cI a,am cI b] (.lit (.bool r)):=by
 unfold F.f70 at hF
 refine PureCall.enterLe Try.func29 (by kernel_rfl) rfl Try.ntmps29 (by simp) (by simp) ?_
 repeat first|refine cg ?_|simp -dsimp
 revert hF;refine abr.ns ?_ ?_<;>intro h1 q2 hF
 ·have z3:¬((a.length:Int)=(b.length:Int)):=auz
  cases hF
  repeat first|refine cg ?_|simp -dsimp[h1,q2,z3]
  all_goals(try first|omega|rfl)
 ·have z3:((a.length:Int)=(b.length:Int)):=auz
  repeat first|refine cg ?_|simp -dsimp[h1,q2,z3]
  have hF:=ob hF;obtain⟨o',ho13,hF⟩:=hF
  refine ALoop.goU _ ?_ (((CC.f69 B hB1 hB2 a b) 0 o' ho13) _ rfl _ ?_)
  ·exact(Gh.to3 (by simp) (by first|simp -dsimp[h1,q2,z3];done|simp_all))
  rcases o' with r0|sx
  ·dsimp only at hF
   cases hF
   intro st h
   simpa using h
  ·dsimp only at hF
   cases hF
   repeat first|refine cg ?_|simp -dsimp
   all_goals(try first|omega|rfl)
theorem C.f71 (a:PathBind)(b:PathBind)(r:Bool)(hF:F.f71 a b=some r):PureCall Try.prog B 57 [.agg [li a.var,am cI a.path],.agg [li b.var,am cI b.path]] (.lit (.bool r)):=by
 unfold F.f71 at hF
 refine PureCall.enterLe Try.func57 (by kernel_rfl) rfl Try.ntmps57 (by simp) (by simp) ?_
 repeat first|refine cg ?_|simp -dsimp
 revert hF;refine abr.ns ?_ ?_<;>intro h1 q2 hF
 ·cases hF
  repeat first|refine cg ?_|simp -dsimp[h1,q2]
  all_goals(try first|omega|rfl)
 ·repeat first|refine cg ?_|simp -dsimp[h1,q2]
  have hF:=ob hF;obtain⟨v,e3,hF⟩:=hF
  refine((C.f70 B hB1 hB2 a.path b.path v e3)).goW (by first|simp[h1,q2];done|simp_all) (by simp) ?_
  repeat first|refine cg ?_|simp -dsimp[h1,q2]
  revert hF;refine abr.ns (fun h4 q5 hF=> ?_) (fun h4 q5 hF=> ?_)
  ·cases hF
   repeat first|refine cg ?_|simp -dsimp[h1,q2,h4,q5]
   all_goals(try first|omega|rfl)
  ·cases hF
   repeat first|refine cg ?_|simp -dsimp[h1,q2,h4,q5]
   all_goals(try first|omega|rfl)
theorem CC.f72 (a:List PathBind)(b:List PathBind):(∀(i:Nat) (o:Lo Bool Unit),F.f72 a b i=some o→∀(c:Code),ZAC [1,1,0,1,0,0] (ZL Try.f28)=some c→∀(Q:Exit→ASt→Prop),o.post (fun r=>∀st,ZBb Try.prog Try.f28 (fun r' _=>r'.le (.lit (.bool r))) .ret st→Q .ret st) (fun s=>Q (.exit 0) ⟨[],[]⟩)→ALoopU Try.prog B 0 27 (hold c .mk) ⟨[(0,am PathBind.c a),(1,am PathBind.c b),(5,li (i:Int))],[]⟩ (hold Q .mk)):=by
 refine F.f72.partial_correctness a b
  _
  ?_
 ·intro _f_f72 ih_f72 i o hF
  intro c hc Q hq
  obtain rfl:c=_:=ZS hc rfl
  refine ALoopU.know fun hk hs=> ?_
  have b0:=hk 0
  simp -dsimp at b0
  have b1:=hk 1
  simp -dsimp at b1
  clear hk hs
  refine ALoopU.enter ?_
  repeat first|refine cg ?_|simp -dsimp
  revert hF;refine abr.sp ?_ ?_<;>intro h4 q5 hF
  ·have z6:((i:Int)<(a.length:Int)):=auz
   repeat first|refine cg ?_|simp -dsimp[h4,z6]
   refine ADraw.simple follows (by kernel_rfl) (by kernel_rfl) ?_
   have hF:=ob hF;obtain⟨x,e7,hF⟩:=hF
   have le7:=ZD e7
   have hF:=ob hF;obtain⟨x8,e9,hF⟩:=hF
   have le9:=ZD e9
   repeat first|refine cg ?_|simp -dsimp[h4,z6,↓e7,↓e9]
   have hF:=ob hF;obtain⟨v,e10,hF⟩:=hF
   refine((C.f71 B hB1 hB2 x x8 v e10)).pgoW (by first|simp[h4,z6,↓e7,↓e9];done|simp_all) (by simp) ?_
   repeat first|refine cg ?_|simp -dsimp[h4,z6,↓e7,↓e9]
   revert hF;refine abr.ns (fun h11 q12 hF=> ?_) (fun h11 q12 hF=> ?_)
   ·cases hF
    repeat first|refine cg ?_|simp -dsimp[h4,z6,↓e7,↓e9,h11,q12]
    refine Leave.go _ (Gh.refl _) (hq _ ?_)
    repeat first|refine cg ?_|simp -dsimp[h4,z6,↓e7,↓e9,h11,q12]
   ·have w13:IntKind.i64.wrap ((i:Int)+1)=(i:Int)+1:=ZB (by omega) (by omega)
    repeat first|refine cg ?_|simp -dsimp[h4,z6,↓e7,↓e9,h11,q12,w13]
    refine Again.go _ ?_ ((ih_f72 (i+1) o hF) _ rfl _ hq)
    exact(Gh.to3 (by simp) (by first|simp -dsimp[h4,z6,↓e7,↓e9,h11,q12,w13];done|simp_all))
  ·have z6:¬((i:Int)<(a.length:Int)):=auz
   cases hF
   repeat first|refine cg ?_|simp -dsimp[h4,q5,z6]
   refine Leave.go _ (Gh.to3 (by simp) (by first|simp -dsimp[h4,q5,z6];done|simp_all)) hq
theorem C.f73 (a:List PathBind)(b:List PathBind)(r:Bool)(hF:F.f73 a b=some r):PureCall Try.prog B 28 [am PathBind.c a,am PathBind.c b] (.lit (.bool r)):=by
 unfold F.f73 at hF
 refine PureCall.enterLe Try.func28 (by kernel_rfl) rfl Try.ntmps28 (by simp) (by simp) ?_
 repeat first|refine cg ?_|simp -dsimp
 revert hF;refine abr.ns ?_ ?_<;>intro h1 q2 hF
 ·have z3:¬((a.length:Int)=(b.length:Int)):=auz
  cases hF
  repeat first|refine cg ?_|simp -dsimp[h1,q2,z3]
  all_goals(try first|omega|rfl)
 ·have z3:((a.length:Int)=(b.length:Int)):=auz
  repeat first|refine cg ?_|simp -dsimp[h1,q2,z3]
  have hF:=ob hF;obtain⟨o',ho14,hF⟩:=hF
  refine ALoop.goU _ ?_ (((CC.f72 B hB1 hB2 a b) 0 o' ho14) _ rfl _ ?_)
  ·exact(Gh.to3 (by simp) (by first|simp -dsimp[h1,q2,z3];done|simp_all))
  rcases o' with r0|sx
  ·dsimp only at hF
   cases hF
   intro st h
   simpa using h
  ·dsimp only at hF
   cases hF
   repeat first|refine cg ?_|simp -dsimp
   all_goals(try first|omega|rfl)
theorem C.f74 (a:Vl.Edge)(b:Vl.Edge)(r:Bool)(hF:F.f74 a b=some r):PureCall Try.prog B 65 [.agg [li a.ctor,li a.n,li a.m,li a.to],.agg [li b.ctor,li b.n,li b.m,li b.to]] (.lit (.bool r)):=by
 unfold F.f74 at hF
 refine PureCall.enterLe Try.func65 (by kernel_rfl) rfl Try.ntmps65 (by simp) (by simp) ?_
 repeat first|refine cg ?_|simp -dsimp
 revert hF;refine abr.ns ?_ ?_<;>intro h1 q2 hF
 ·cases hF
  repeat first|refine cg ?_|simp -dsimp[h1,q2]
  all_goals(try first|omega|rfl)
 ·repeat first|refine cg ?_|simp -dsimp[h1,q2]
  revert hF;refine abr.ns ?_ ?_<;>intro h3 q4 hF
  ·cases hF
   repeat first|refine cg ?_|simp -dsimp[h1,q2,h3,q4]
   all_goals(try first|omega|rfl)
  ·repeat first|refine cg ?_|simp -dsimp[h1,q2,h3,q4]
   revert hF;refine abr.ns ?_ ?_<;>intro h5 q6 hF
   ·cases hF
    repeat first|refine cg ?_|simp -dsimp[h1,q2,h3,q4,h5,q6]
    all_goals(try first|omega|rfl)
   ·repeat first|refine cg ?_|simp -dsimp[h1,q2,h3,q4,h5,q6]
    revert hF;refine abr.ns ?_ ?_<;>intro h7 q8 hF
    ·cases hF
     repeat first|refine cg ?_|simp -dsimp[h1,q2,h3,q4,h5,q6,h7,q8]
     all_goals(try first|omega|rfl)
    ·cases hF
     repeat first|refine cg ?_|simp -dsimp[h1,q2,h3,q4,h5,q6,h7,q8]
     all_goals(try first|omega|rfl)
theorem CC.f75 (a:List Vl.Edge)(b:List Vl.Edge):(∀(i:Nat) (o:Lo Bool Unit),F.f75 a b i=some o→∀(c:Code),ZAC [1,1,0,1,0,0] (ZL Try.f56)=some c→∀(Q:Exit→ASt→Prop),o.post (fun r=>∀st,ZBb Try.prog Try.f56 (fun r' _=>r'.le (.lit (.bool r))) .ret st→Q .ret st) (fun s=>Q (.exit 0) ⟨[],[]⟩)→ALoopU Try.prog B 0 27 (hold c .mk) ⟨[(0,am Vl.Edge.c a),(1,am Vl.Edge.c b),(5,li (i:Int))],[]⟩ (hold Q .mk)):=by
 refine F.f75.partial_correctness a b
  _
  ?_
 ·intro _f_f75 ih_f75 i o hF
  intro c hc Q hq
  obtain rfl:c=_:=ZS hc rfl
  refine ALoopU.know fun hk hs=> ?_
  have b0:=hk 0
  simp -dsimp at b0
  have b1:=hk 1
  simp -dsimp at b1
  clear hk hs
  refine ALoopU.enter ?_
  repeat first|refine cg ?_|simp -dsimp
  revert hF;refine abr.sp ?_ ?_<;>intro h4 q5 hF
  ·have z6:((i:Int)<(a.length:Int)):=auz
   repeat first|refine cg ?_|simp -dsimp[h4,z6]
   refine ADraw.simple follows (by kernel_rfl) (by kernel_rfl) ?_
   have hF:=ob hF;obtain⟨x,e7,hF⟩:=hF
   have le7:=ZD e7
   have hF:=ob hF;obtain⟨x8,e9,hF⟩:=hF
   have le9:=ZD e9
   repeat first|refine cg ?_|simp -dsimp[h4,z6,↓e7,↓e9]
   have hF:=ob hF;obtain⟨v,e10,hF⟩:=hF
   refine((C.f74 B hB1 hB2 x x8 v e10)).pgoW (by first|simp[h4,z6,↓e7,↓e9];done|simp_all) (by simp) ?_
   repeat first|refine cg ?_|simp -dsimp[h4,z6,↓e7,↓e9]
   revert hF;refine abr.ns (fun h11 q12 hF=> ?_) (fun h11 q12 hF=> ?_)
   ·cases hF
    repeat first|refine cg ?_|simp -dsimp[h4,z6,↓e7,↓e9,h11,q12]
    refine Leave.go _ (Gh.refl _) (hq _ ?_)
    repeat first|refine cg ?_|simp -dsimp[h4,z6,↓e7,↓e9,h11,q12]
   ·have w13:IntKind.i64.wrap ((i:Int)+1)=(i:Int)+1:=ZB (by omega) (by omega)
    repeat first|refine cg ?_|simp -dsimp[h4,z6,↓e7,↓e9,h11,q12,w13]
    refine Again.go _ ?_ ((ih_f75 (i+1) o hF) _ rfl _ hq)
    exact(Gh.to3 (by simp) (by first|simp -dsimp[h4,z6,↓e7,↓e9,h11,q12,w13];done|simp_all))
  ·have z6:¬((i:Int)<(a.length:Int)):=auz
   cases hF
   repeat first|refine cg ?_|simp -dsimp[h4,q5,z6]
   refine Leave.go _ (Gh.to3 (by simp) (by first|simp -dsimp[h4,q5,z6];done|simp_all)) hq
theorem C.f76 (a:List Vl.Edge)(b:List Vl.Edge)(r:Bool)(hF:F.f76 a b=some r):PureCall Try.prog B 56 [am Vl.Edge.c a,am Vl.Edge.c b] (.lit (.bool r)):=by
 unfold F.f76 at hF
 refine PureCall.enterLe Try.func56 (by kernel_rfl) rfl Try.ntmps56 (by simp) (by simp) ?_
 repeat first|refine cg ?_|simp -dsimp
 revert hF;refine abr.ns ?_ ?_<;>intro h1 q2 hF
 ·have z3:¬((a.length:Int)=(b.length:Int)):=auz
  cases hF
  repeat first|refine cg ?_|simp -dsimp[h1,q2,z3]
  all_goals(try first|omega|rfl)
 ·have z3:((a.length:Int)=(b.length:Int)):=auz
  repeat first|refine cg ?_|simp -dsimp[h1,q2,z3]
  have hF:=ob hF;obtain⟨o',ho14,hF⟩:=hF
  refine ALoop.goU _ ?_ (((CC.f75 B hB1 hB2 a b) 0 o' ho14) _ rfl _ ?_)
  ·exact(Gh.to3 (by simp) (by first|simp -dsimp[h1,q2,z3];done|simp_all))
  rcases o' with r0|sx
  ·dsimp only at hF
   cases hF
   intro st h
   simpa using h
  ·dsimp only at hF
   cases hF
   repeat first|refine cg ?_|simp -dsimp
   all_goals(try first|omega|rfl)
theorem C.f77 (a:Vl.Node)(b:Vl.Node)(r:Bool)(hF:F.f77 a b=some r):PureCall Try.prog B 27 [.agg [li a.op,li a.clause,am PathBind.c a.binds,am cI a.path,am Vl.Edge.c a.edges,li a.els],.agg [li b.op,li b.clause,am PathBind.c b.binds,am cI b.path,am Vl.Edge.c b.edges,li b.els]] (.lit (.bool r)):=by
 unfold F.f77 at hF
 refine PureCall.enterLe Try.func27 (by kernel_rfl) rfl Try.ntmps27 (by simp) (by simp) ?_
 repeat first|refine cg ?_|simp -dsimp
 revert hF;refine abr.ns ?_ ?_<;>intro h1 q2 hF
 ·cases hF
  repeat first|refine cg ?_|simp -dsimp[h1,q2]
  all_goals(try first|omega|rfl)
 ·repeat first|refine cg ?_|simp -dsimp[h1,q2]
  revert hF;refine abr.ns ?_ ?_<;>intro h3 q4 hF
  ·cases hF
   repeat first|refine cg ?_|simp -dsimp[h1,q2,h3,q4]
   all_goals(try first|omega|rfl)
  ·repeat first|refine cg ?_|simp -dsimp[h1,q2,h3,q4]
   have hF:=ob hF;obtain⟨v,e5,hF⟩:=hF
   refine((C.f73 B hB1 hB2 a.binds b.binds v e5)).goW (by first|simp[h1,q2,h3,q4];done|simp_all) (by simp) ?_
   repeat first|refine cg ?_|simp -dsimp[h1,q2,h3,q4]
   revert hF;refine abr.ns (fun h6 q7 hF=> ?_) (fun h6 q7 hF=> ?_)
   ·cases hF
    repeat first|refine cg ?_|simp -dsimp[h1,q2,h3,q4,h6,q7]
    all_goals(try first|omega|rfl)
   ·repeat first|refine cg ?_|simp -dsimp[h1,q2,h3,q4,h6,q7]
    have hF:=ob hF;obtain⟨v8,e9,hF⟩:=hF
    refine((C.f70 B hB1 hB2 a.path b.path v8 e9)).goW (by first|simp[h1,q2,h3,q4,h6,q7];done|simp_all) (by simp) ?_
    repeat first|refine cg ?_|simp -dsimp[h1,q2,h3,q4,h6,q7]
    revert hF;refine abr.ns (fun h10 q11 hF=> ?_) (fun h10 q11 hF=> ?_)
    ·cases hF
     repeat first|refine cg ?_|simp -dsimp[h1,q2,h3,q4,h6,q7,h10,q11]
     all_goals(try first|omega|rfl)
    ·repeat first|refine cg ?_|simp -dsimp[h1,q2,h3,q4,h6,q7,h10,q11]
     have hF:=ob hF;obtain⟨v12,e13,hF⟩:=hF
     refine((C.f76 B hB1 hB2 a.edges b.edges v12 e13)).goW (by first|simp[h1,q2,h3,q4,h6,q7,h10,q11];done|simp_all) (by simp) ?_
     repeat first|refine cg ?_|simp -dsimp[h1,q2,h3,q4,h6,q7,h10,q11]
     revert hF;refine abr.ns (fun h14 q15 hF=> ?_) (fun h14 q15 hF=> ?_)
     ·cases hF
      repeat first|refine cg ?_|simp -dsimp[h1,q2,h3,q4,h6,q7,h10,q11,h14,q15]
      all_goals(try first|omega|rfl)
     ·repeat first|refine cg ?_|simp -dsimp[h1,q2,h3,q4,h6,q7,h10,q11,h14,q15]
      revert hF;refine abr.ns ?_ ?_<;>intro h16 q17 hF
      ·cases hF
       repeat first|refine cg ?_|simp -dsimp[h1,q2,h3,q4,h6,q7,h10,q11,h14,q15,h16,q17]
       all_goals(try first|omega|rfl)
      ·cases hF
       repeat first|refine cg ?_|simp -dsimp[h1,q2,h3,q4,h6,q7,h10,q11,h14,q15,h16,q17]
       all_goals(try first|omega|rfl)
theorem CC.f78 (a:List Vl.Node)(b:List Vl.Node):(∀(i:Nat) (o:Lo Bool Unit),F.f78 a b i=some o→∀(c:Code),ZAC [1,1,0,1,0,0] (ZL Try.f8)=some c→∀(Q:Exit→ASt→Prop),o.post (fun r=>∀st,ZBb Try.prog Try.f8 (fun r' _=>r'.le (.lit (.bool r))) .ret st→Q .ret st) (fun s=>Q (.exit 0) ⟨[],[]⟩)→ALoopU Try.prog B 0 27 (hold c .mk) ⟨[(0,am Vl.Node.c a),(1,am Vl.Node.c b),(5,li (i:Int))],[]⟩ (hold Q .mk)):=by
 refine F.f78.partial_correctness a b
  _
  ?_
 ·intro _f_f78 ih_f78 i o hF
  intro c hc Q hq
  obtain rfl:c=_:=ZS hc rfl
  refine ALoopU.know fun hk hs=> ?_
  have b0:=hk 0
  simp -dsimp at b0
  have b1:=hk 1
  simp -dsimp at b1
  clear hk hs
  refine ALoopU.enter ?_
  repeat first|refine cg ?_|simp -dsimp
  revert hF;refine abr.sp ?_ ?_<;>intro h4 q5 hF
  ·have z6:((i:Int)<(a.length:Int)):=auz
   repeat first|refine cg ?_|simp -dsimp[h4,z6]
   refine ADraw.simple follows (by kernel_rfl) (by kernel_rfl) ?_
   have hF:=ob hF;obtain⟨x,e7,hF⟩:=hF
   have le7:=ZD e7
   have hF:=ob hF;obtain⟨x8,e9,hF⟩:=hF
   have le9:=ZD e9
   repeat first|refine cg ?_|simp -dsimp[h4,z6,↓e7,↓e9]
   have hF:=ob hF;obtain⟨v,e10,hF⟩:=hF
   refine((C.f77 B hB1 hB2 x x8 v e10)).pgoW (by first|simp[h4,z6,↓e7,↓e9];done|simp_all) (by simp) ?_
   repeat first|refine cg ?_|simp -dsimp[h4,z6,↓e7,↓e9]
   revert hF;refine abr.ns (fun h11 q12 hF=> ?_) (fun h11 q12 hF=> ?_)
   ·cases hF
    repeat first|refine cg ?_|simp -dsimp[h4,z6,↓e7,↓e9,h11,q12]
    refine Leave.go _ (Gh.refl _) (hq _ ?_)
    repeat first|refine cg ?_|simp -dsimp[h4,z6,↓e7,↓e9,h11,q12]
   ·have w13:IntKind.i64.wrap ((i:Int)+1)=(i:Int)+1:=ZB (by omega) (by omega)
    repeat first|refine cg ?_|simp -dsimp[h4,z6,↓e7,↓e9,h11,q12,w13]
    refine Again.go _ ?_ ((ih_f78 (i+1) o hF) _ rfl _ hq)
    exact(Gh.to3 (by simp) (by first|simp -dsimp[h4,z6,↓e7,↓e9,h11,q12,w13];done|simp_all))
  ·have z6:¬((i:Int)<(a.length:Int)):=auz
   cases hF
   repeat first|refine cg ?_|simp -dsimp[h4,q5,z6]
   refine Leave.go _ (Gh.to3 (by simp) (by first|simp -dsimp[h4,q5,z6];done|simp_all)) hq
theorem C.f79 (a:List Vl.Node)(b:List Vl.Node)(r:Bool)(hF:F.f79 a b=some r):PureCall Try.prog B 8 [am Vl.Node.c a,am Vl.Node.c b] (.lit (.bool r)):=by
 unfold F.f79 at hF
 refine PureCall.enterLe Try.func8 (by kernel_rfl) rfl Try.ntmps8 (by simp) (by simp) ?_
 repeat first|refine cg ?_|simp -dsimp
 revert hF;refine abr.ns ?_ ?_<;>intro h1 q2 hF
 ·have z3:¬((a.length:Int)=(b.length:Int)):=auz
  cases hF
  repeat first|refine cg ?_|simp -dsimp[h1,q2,z3]
  all_goals(try first|omega|rfl)
 ·have z3:((a.length:Int)=(b.length:Int)):=auz
  repeat first|refine cg ?_|simp -dsimp[h1,q2,z3]
  have hF:=ob hF;obtain⟨o',ho14,hF⟩:=hF
  refine ALoop.goU _ ?_ (((CC.f78 B hB1 hB2 a b) 0 o' ho14) _ rfl _ ?_)
  ·exact(Gh.to3 (by simp) (by first|simp -dsimp[h1,q2,z3];done|simp_all))
  rcases o' with r0|sx
  ·dsimp only at hF
   cases hF
   intro st h
   simpa using h
  ·dsimp only at hF
   cases hF
   repeat first|refine cg ?_|simp -dsimp
   all_goals(try first|omega|rfl)
theorem CC.f80  :(∀(a:Branch) (b:Branch) (r:Bool),F.f80 a b=some r→PureCall Try.prog B 58 [.agg [li a.ctor,li a.n,li a.m,li a.tree.op,li a.tree.clause,am PathBind.c a.tree.binds,am cI a.tree.path,am Branch.c a.tree.branches,am Tree.c a.tree.els],.agg [li b.ctor,li b.n,li b.m,li b.tree.op,li b.tree.clause,am PathBind.c b.tree.binds,am cI b.tree.path,am Branch.c b.tree.branches,am Tree.c b.tree.els]] (.lit (.bool r)))∧
  (∀(a:Tree) (b:Tree) (r:Bool),F.f82 a b=some r→PureCall Try.prog B 9 [.agg [li a.op,li a.clause,am PathBind.c a.binds,am cI a.path,am Branch.c a.branches,am Tree.c a.els],.agg [li b.op,li b.clause,am PathBind.c b.binds,am cI b.path,am Branch.c b.branches,am Tree.c b.els]] (.lit (.bool r)))∧
  (∀(a:List Tree) (b:List Tree) (r:Bool),F.f83 a b=some r→PureCall Try.prog B 31 [am Tree.c a,am Tree.c b] (.lit (.bool r)))∧
  (∀(a:List Tree) (b:List Tree) (i:Nat) (o:Lo Bool Unit),F.f85 a b i=some o→∀(c:Code),ZAC [1,1,0,1,0,0] (ZL Try.f31)=some c→∀(Q:Exit→ASt→Prop),o.post (fun r=>∀st,ZBb Try.prog Try.f31 (fun r' _=>r'.le (.lit (.bool r))) .ret st→Q .ret st) (fun s=>Q (.exit 0) ⟨[],[]⟩)→ALoopU Try.prog B 0 27 (hold c .mk) ⟨[(0,am Tree.c a),(1,am Tree.c b),(5,li (i:Int))],[]⟩ (hold Q .mk))∧
  (∀(a:List Branch) (b:List Branch) (r:Bool),F.f81 a b=some r→PureCall Try.prog B 30 [am Branch.c a,am Branch.c b] (.lit (.bool r)))∧
  (∀(a:List Branch) (b:List Branch) (i:Nat) (o:Lo Bool Unit),F.f84 a b i=some o→∀(c:Code),ZAC [1,1,0,1,0,0] (ZL Try.f30)=some c→∀(Q:Exit→ASt→Prop),o.post (fun r=>∀st,ZBb Try.prog Try.f30 (fun r' _=>r'.le (.lit (.bool r))) .ret st→Q .ret st) (fun s=>Q (.exit 0) ⟨[],[]⟩)→ALoopU Try.prog B 0 27 (hold c .mk) ⟨[(0,am Branch.c a),(1,am Branch.c b),(5,li (i:Int))],[]⟩ (hold Q .mk)):=by
 refine F.f80.mutual_partial_correctness 
  _ _ _ _ _ _
  ?_ ?_ ?_ ?_ ?_ ?_
 ·intro _f_f82 ih_f82 a b r hF
  refine PureCall.enterLe Try.func58 (by kernel_rfl) rfl Try.ntmps58 (by simp) (by simp) ?_
  repeat first|refine cg ?_|simp -dsimp
  revert hF;refine abr.ns ?_ ?_<;>intro h1 q2 hF
  ·cases hF
   repeat first|refine cg ?_|simp -dsimp[h1,q2]
   all_goals(try first|omega|rfl)
  ·repeat first|refine cg ?_|simp -dsimp[h1,q2]
   revert hF;refine abr.ns ?_ ?_<;>intro h3 q4 hF
   ·cases hF
    repeat first|refine cg ?_|simp -dsimp[h1,q2,h3,q4]
    all_goals(try first|omega|rfl)
   ·repeat first|refine cg ?_|simp -dsimp[h1,q2,h3,q4]
    revert hF;refine abr.ns ?_ ?_<;>intro h5 q6 hF
    ·cases hF
     repeat first|refine cg ?_|simp -dsimp[h1,q2,h3,q4,h5,q6]
     all_goals(try first|omega|rfl)
    ·repeat first|refine cg ?_|simp -dsimp[h1,q2,h3,q4,h5,q6]
     have hF:=ob hF;obtain⟨v,e7,hF⟩:=hF
     refine((ih_f82 a.tree b.tree v e7)).goW (by first|simp[h1,q2,h3,q4,h5,q6];done|simp_all) (by simp) ?_
     repeat first|refine cg ?_|simp -dsimp[h1,q2,h3,q4,h5,q6]
     revert hF;refine abr.ns (fun h8 q9 hF=> ?_) (fun h8 q9 hF=> ?_)
     ·cases hF
      repeat first|refine cg ?_|simp -dsimp[h1,q2,h3,q4,h5,q6,h8,q9]
      all_goals(try first|omega|rfl)
     ·cases hF
      repeat first|refine cg ?_|simp -dsimp[h1,q2,h3,q4,h5,q6,h8,q9]
      all_goals(try first|omega|rfl)
 ·intro _f_f83 _f_f81 ih_f83 ih_f81 a b r hF
  refine PureCall.enterLe Try.func9 (by kernel_rfl) rfl Try.ntmps9 (by simp) (by simp) ?_
  repeat first|refine cg ?_|simp -dsimp
  revert hF;refine abr.ns ?_ ?_<;>intro h1 q2 hF
  ·cases hF
   repeat first|refine cg ?_|simp -dsimp[h1,q2]
   all_goals(try first|omega|rfl)
  ·repeat first|refine cg ?_|simp -dsimp[h1,q2]
   revert hF;refine abr.ns ?_ ?_<;>intro h3 q4 hF
   ·cases hF
    repeat first|refine cg ?_|simp -dsimp[h1,q2,h3,q4]
    all_goals(try first|omega|rfl)
   ·repeat first|refine cg ?_|simp -dsimp[h1,q2,h3,q4]
    have hF:=ob hF;obtain⟨v,e5,hF⟩:=hF
    refine((C.f73 B hB1 hB2 a.binds b.binds v e5)).goW (by first|simp[h1,q2,h3,q4];done|simp_all) (by simp) ?_
    repeat first|refine cg ?_|simp -dsimp[h1,q2,h3,q4]
    revert hF;refine abr.ns (fun h6 q7 hF=> ?_) (fun h6 q7 hF=> ?_)
    ·cases hF
     repeat first|refine cg ?_|simp -dsimp[h1,q2,h3,q4,h6,q7]
     all_goals(try first|omega|rfl)
    ·repeat first|refine cg ?_|simp -dsimp[h1,q2,h3,q4,h6,q7]
     have hF:=ob hF;obtain⟨v8,e9,hF⟩:=hF
     refine((C.f70 B hB1 hB2 a.path b.path v8 e9)).goW (by first|simp[h1,q2,h3,q4,h6,q7];done|simp_all) (by simp) ?_
     repeat first|refine cg ?_|simp -dsimp[h1,q2,h3,q4,h6,q7]
     revert hF;refine abr.ns (fun h10 q11 hF=> ?_) (fun h10 q11 hF=> ?_)
     ·cases hF
      repeat first|refine cg ?_|simp -dsimp[h1,q2,h3,q4,h6,q7,h10,q11]
      all_goals(try first|omega|rfl)
     ·repeat first|refine cg ?_|simp -dsimp[h1,q2,h3,q4,h6,q7,h10,q11]
      have hF:=ob hF;obtain⟨v12,e13,hF⟩:=hF
      refine((ih_f81 a.branches b.branches v12 e13)).goW (by first|simp[h1,q2,h3,q4,h6,q7,h10,q11];done|simp_all) (by simp) ?_
      repeat first|refine cg ?_|simp -dsimp[h1,q2,h3,q4,h6,q7,h10,q11]
      revert hF;refine abr.ns (fun h14 q15 hF=> ?_) (fun h14 q15 hF=> ?_)
      ·cases hF
       repeat first|refine cg ?_|simp -dsimp[h1,q2,h3,q4,h6,q7,h10,q11,h14,q15]
       all_goals(try first|omega|rfl)
      ·repeat first|refine cg ?_|simp -dsimp[h1,q2,h3,q4,h6,q7,h10,q11,h14,q15]
       have hF:=ob hF;obtain⟨v16,e17,hF⟩:=hF
       refine((ih_f83 a.els b.els v16 e17)).goW (by first|simp[h1,q2,h3,q4,h6,q7,h10,q11,h14,q15];done|simp_all) (by simp) ?_
       repeat first|refine cg ?_|simp -dsimp[h1,q2,h3,q4,h6,q7,h10,q11,h14,q15]
       revert hF;refine abr.ns (fun h18 q19 hF=> ?_) (fun h18 q19 hF=> ?_)
       ·cases hF
        repeat first|refine cg ?_|simp -dsimp[h1,q2,h3,q4,h6,q7,h10,q11,h14,q15,h18,q19]
        all_goals(try first|omega|rfl)
       ·cases hF
        repeat first|refine cg ?_|simp -dsimp[h1,q2,h3,q4,h6,q7,h10,q11,h14,q15,h18,q19]
        all_goals(try first|omega|rfl)
 ·intro _f_f85 ih_f85 a b r hF
  refine PureCall.enterLe Try.func31 (by kernel_rfl) rfl Try.ntmps31 (by simp) (by simp) ?_
  repeat first|refine cg ?_|simp -dsimp
  revert hF;refine abr.ns ?_ ?_<;>intro h1 q2 hF
  ·have z3:¬((a.length:Int)=(b.length:Int)):=auz
   cases hF
   repeat first|refine cg ?_|simp -dsimp[h1,q2,z3]
   all_goals(try first|omega|rfl)
  ·have z3:((a.length:Int)=(b.length:Int)):=auz
   repeat first|refine cg ?_|simp -dsimp[h1,q2,z3]
   have hF:=ob hF;obtain⟨o',ho14,hF⟩:=hF
   refine ALoop.goU _ ?_ ((ih_f85 a b 0 o' ho14) _ rfl _ ?_)
   ·exact(Gh.to3 (by simp) (by first|simp -dsimp[h1,q2,z3];done|simp_all))
   rcases o' with r0|sx
   ·dsimp only at hF
    cases hF
    intro st h
    simpa using h
   ·dsimp only at hF
    cases hF
    repeat first|refine cg ?_|simp -dsimp
    all_goals(try first|omega|rfl)
 ·intro _f_f82 _f_f85 ih_f82 ih_f85 a b i o hF
  intro c hc Q hq
  obtain rfl:c=_:=ZS hc rfl
  refine ALoopU.know fun hk hs=> ?_
  have b0:=hk 0
  simp -dsimp at b0
  have b1:=hk 1
  simp -dsimp at b1
  clear hk hs
  refine ALoopU.enter ?_
  repeat first|refine cg ?_|simp -dsimp
  revert hF;refine abr.sp ?_ ?_<;>intro h4 q5 hF
  ·have z6:((i:Int)<(a.length:Int)):=auz
   repeat first|refine cg ?_|simp -dsimp[h4,z6]
   refine ADraw.simple follows (by kernel_rfl) (by kernel_rfl) ?_
   have hF:=ob hF;obtain⟨x,e7,hF⟩:=hF
   have le7:=ZD e7
   have hF:=ob hF;obtain⟨x8,e9,hF⟩:=hF
   have le9:=ZD e9
   repeat first|refine cg ?_|simp -dsimp[h4,z6,↓e7,↓e9]
   have hF:=ob hF;obtain⟨v,e10,hF⟩:=hF
   refine((ih_f82 x x8 v e10)).pgoW (by first|simp[h4,z6,↓e7,↓e9];done|simp_all) (by simp) ?_
   repeat first|refine cg ?_|simp -dsimp[h4,z6,↓e7,↓e9]
   revert hF;refine abr.ns (fun h11 q12 hF=> ?_) (fun h11 q12 hF=> ?_)
   ·cases hF
    repeat first|refine cg ?_|simp -dsimp[h4,z6,↓e7,↓e9,h11,q12]
    refine Leave.go _ (Gh.refl _) (hq _ ?_)
    repeat first|refine cg ?_|simp -dsimp[h4,z6,↓e7,↓e9,h11,q12]
   ·have w13:IntKind.i64.wrap ((i:Int)+1)=(i:Int)+1:=ZB (by omega) (by omega)
    repeat first|refine cg ?_|simp -dsimp[h4,z6,↓e7,↓e9,h11,q12,w13]
    refine Again.go _ ?_ ((ih_f85 a b (i+1) o hF) _ rfl _ hq)
    exact(Gh.to3 (by simp) (by first|simp -dsimp[h4,z6,↓e7,↓e9,h11,q12,w13];done|simp_all))
  ·have z6:¬((i:Int)<(a.length:Int)):=auz
   cases hF
   repeat first|refine cg ?_|simp -dsimp[h4,q5,z6]
   refine Leave.go _ (Gh.to3 (by simp) (by first|simp -dsimp[h4,q5,z6];done|simp_all)) hq
 ·intro _f_f84 ih_f84 a b r hF
  refine PureCall.enterLe Try.func30 (by kernel_rfl) rfl Try.ntmps30 (by simp) (by simp) ?_
  repeat first|refine cg ?_|simp -dsimp
  revert hF;refine abr.ns ?_ ?_<;>intro h1 q2 hF
  ·have z3:¬((a.length:Int)=(b.length:Int)):=auz
   cases hF
   repeat first|refine cg ?_|simp -dsimp[h1,q2,z3]
   all_goals(try first|omega|rfl)
  ·have z3:((a.length:Int)=(b.length:Int)):=auz
   repeat first|refine cg ?_|simp -dsimp[h1,q2,z3]
   have hF:=ob hF;obtain⟨o',ho14,hF⟩:=hF
   refine ALoop.goU _ ?_ ((ih_f84 a b 0 o' ho14) _ rfl _ ?_)
   ·exact(Gh.to3 (by simp) (by first|simp -dsimp[h1,q2,z3];done|simp_all))
   rcases o' with r0|sx
   ·dsimp only at hF
    cases hF
    intro st h
    simpa using h
   ·dsimp only at hF
    cases hF
    repeat first|refine cg ?_|simp -dsimp
    all_goals(try first|omega|rfl)
 ·intro _f_f80 _f_f84 ih_f80 ih_f84 a b i o hF
  intro c hc Q hq
  obtain rfl:c=_:=ZS hc rfl
  refine ALoopU.know fun hk hs=> ?_
  have b0:=hk 0
  simp -dsimp at b0
  have b1:=hk 1
  simp -dsimp at b1
  clear hk hs
  refine ALoopU.enter ?_
  repeat first|refine cg ?_|simp -dsimp
  revert hF;refine abr.sp ?_ ?_<;>intro h4 q5 hF
  ·have z6:((i:Int)<(a.length:Int)):=auz
   repeat first|refine cg ?_|simp -dsimp[h4,z6]
   refine ADraw.simple follows (by kernel_rfl) (by kernel_rfl) ?_
   have hF:=ob hF;obtain⟨x,e7,hF⟩:=hF
   have le7:=ZD e7
   have hF:=ob hF;obtain⟨x8,e9,hF⟩:=hF
   have le9:=ZD e9
   repeat first|refine cg ?_|simp -dsimp[h4,z6,↓e7,↓e9]
   have hF:=ob hF;obtain⟨v,e10,hF⟩:=hF
   refine((ih_f80 x x8 v e10)).pgoW (by first|simp[h4,z6,↓e7,↓e9];done|simp_all) (by simp) ?_
   repeat first|refine cg ?_|simp -dsimp[h4,z6,↓e7,↓e9]
   revert hF;refine abr.ns (fun h11 q12 hF=> ?_) (fun h11 q12 hF=> ?_)
   ·cases hF
    repeat first|refine cg ?_|simp -dsimp[h4,z6,↓e7,↓e9,h11,q12]
    refine Leave.go _ (Gh.refl _) (hq _ ?_)
    repeat first|refine cg ?_|simp -dsimp[h4,z6,↓e7,↓e9,h11,q12]
   ·have w13:IntKind.i64.wrap ((i:Int)+1)=(i:Int)+1:=ZB (by omega) (by omega)
    repeat first|refine cg ?_|simp -dsimp[h4,z6,↓e7,↓e9,h11,q12,w13]
    refine Again.go _ ?_ ((ih_f84 a b (i+1) o hF) _ rfl _ hq)
    exact(Gh.to3 (by simp) (by first|simp -dsimp[h4,z6,↓e7,↓e9,h11,q12,w13];done|simp_all))
  ·have z6:¬((i:Int)<(a.length:Int)):=auz
   cases hF
   repeat first|refine cg ?_|simp -dsimp[h4,q5,z6]
   refine Leave.go _ (Gh.to3 (by simp) (by first|simp -dsimp[h4,q5,z6];done|simp_all)) hq
theorem CC.f86 (a:List Int):(∀(k1:Int) (i:Nat) (o:Lo Int Int),F.f86 a k1 i=some o→∀(c:Code),ZAC [1,0,1,0,0] (ZL Try.f38)=some c→∀(Q:Exit→ASt→Prop),o.post (fun r=>∀st,ZBb Try.prog Try.f38 (fun r' _=>r'.le (li r)) .ret st→Q .ret st) (fun s=>Q (.exit 0) ⟨[(1,li s)],[]⟩)→ALoopU Try.prog B 0 21 (hold c .mk) ⟨[(0,am cI a),(1,li k1),(5,li (i:Int))],[]⟩ (hold Q .mk)):=by
 refine F.f86.partial_correctness a
  _
  ?_
 ·intro _f_f86 ih_f86 k1 i o hF
  intro c hc Q hq
  obtain rfl:c=_:=ZS hc rfl
  refine ALoopU.know fun hk hs=> ?_
  have b0:=hk 0
  simp -dsimp at b0
  clear hk hs
  refine ALoopU.enter ?_
  repeat first|refine cg ?_|simp -dsimp
  revert hF;refine abr.sp ?_ ?_<;>intro h2 q3 hF
  ·have z4:((i:Int)<(a.length:Int)):=auz
   have hF:=ob hF;obtain⟨x,e5,hF⟩:=hF
   have le5:=ZD e5
   repeat first|refine cg ?_|simp -dsimp[h2,z4,↓e5]
   revert hF;refine abr.ns ?_ ?_<;>intro h6 q7 hF
   ·cases hF
    repeat first|refine cg ?_|simp -dsimp[h2,z4,↓e5,h6,q7]
    refine Leave.go _ (Gh.refl _) (hq _ ?_)
    repeat first|refine cg ?_|simp -dsimp[h2,z4,↓e5,h6,q7]
   ·have w8:IntKind.i64.wrap ((i:Int)+1)=(i:Int)+1:=ZB (by omega) (by omega)
    repeat first|refine cg ?_|simp -dsimp[h2,z4,↓e5,h6,q7,w8]
    refine Again.go _ ?_ ((ih_f86 (IntKind.i64.wrap (k1+1)) (i+1) o hF) _ rfl _ hq)
    exact(Gh.to3 (by simp) (by first|simp -dsimp[h2,z4,↓e5,h6,q7,w8];done|simp_all))
  ·have z4:¬((i:Int)<(a.length:Int)):=auz
   cases hF
   repeat first|refine cg ?_|simp -dsimp[h2,q3,z4]
   refine Leave.go _ (Gh.to3 (by simp) (by first|simp -dsimp[h2,q3,z4];done|simp_all)) hq
theorem C.f87 (a:List Int)(k:Int)(r:Int)(hF:F.f87 a k=some r):PureCall Try.prog B 38 [am cI a,li k] (li r):=by
 unfold F.f87 at hF
 refine PureCall.enterLe Try.func38 (by kernel_rfl) rfl Try.ntmps38 (by simp) (by simp) ?_
 repeat first|refine cg ?_|simp -dsimp
 have hF:=ob hF;obtain⟨o',ho9,hF⟩:=hF
 refine ALoop.goU _ ?_ (((CC.f86 B hB1 hB2 a) k 0 o' ho9) _ rfl _ ?_)
 ·exact(Gh.to3 (by simp) (by simp -dsimp))
 rcases o' with r0|sx
 ·dsimp only at hF
  cases hF
  intro st h
  simpa using h
 ·dsimp only at hF
  cases hF
  repeat first|refine cg ?_|simp -dsimp
  all_goals(try first|omega|rfl)
theorem CC.f88 (a:List PathBind):(∀(k1:Int) (i:Nat) (o:Lo Int Int),F.f88 a k1 i=some o→∀(c:Code),ZAC [1,0,1,0,0] (ZL Try.f37)=some c→∀(Q:Exit→ASt→Prop),o.post (fun r=>∀st,ZBb Try.prog Try.f37 (fun r' _=>r'.le (li r)) .ret st→Q .ret st) (fun s=>Q (.exit 0) ⟨[(1,li s)],[]⟩)→ALoopU Try.prog B 0 31 (hold c .mk) ⟨[(0,am PathBind.c a),(1,li k1),(5,li (i:Int))],[]⟩ (hold Q .mk)):=by
 refine F.f88.partial_correctness a
  _
  ?_
 ·intro _f_f88 ih_f88 k1 i o hF
  intro c hc Q hq
  obtain rfl:c=_:=ZS hc rfl
  refine ALoopU.know fun hk hs=> ?_
  have b0:=hk 0
  simp -dsimp at b0
  clear hk hs
  refine ALoopU.enter ?_
  repeat first|refine cg ?_|simp -dsimp
  revert hF;refine abr.sp ?_ ?_<;>intro h2 q3 hF
  ·have z4:((i:Int)<(a.length:Int)):=auz
   have hF:=ob hF;obtain⟨x,e5,hF⟩:=hF
   have le5:=ZD e5
   repeat first|refine cg ?_|simp -dsimp[h2,z4,↓e5]
   revert hF;refine abr.ns ?_ ?_<;>intro h6 q7 hF
   ·cases hF
    repeat first|refine cg ?_|simp -dsimp[h2,z4,↓e5,h6,q7]
    refine Leave.go _ (Gh.refl _) (hq _ ?_)
    repeat first|refine cg ?_|simp -dsimp[h2,z4,↓e5,h6,q7]
   ·repeat first|refine cg ?_|simp -dsimp[h2,z4,↓e5,h6,q7]
    have hF:=ob hF;obtain⟨v,e8,hF⟩:=hF
    refine((C.f87 B hB1 hB2 x.path (IntKind.i64.wrap (k1+1)) v e8)).goW (by first|simp[h2,z4,↓e5,h6,q7];done|simp_all) (by simp) ?_
    repeat first|refine cg ?_|simp -dsimp[h2,z4,↓e5,h6,q7]
    revert hF;refine abr.sp ?_ ?_<;>intro h9 q10 hF
    ·cases hF
     repeat first|refine cg ?_|simp -dsimp[h2,z4,↓e5,h6,q7,h9]
     refine Leave.go _ (Gh.refl _) (hq _ ?_)
     repeat first|refine cg ?_|simp -dsimp[h2,z4,↓e5,h6,q7,h9]
    ·have w11:IntKind.i64.wrap ((i:Int)+1)=(i:Int)+1:=ZB (by omega) (by omega)
     repeat first|refine cg ?_|simp -dsimp[h2,z4,↓e5,h6,q7,h9,q10,w11]
     refine Again.go _ ?_ ((ih_f88 v (i+1) o hF) _ rfl _ hq)
     exact(Gh.to3 (by simp) (by first|simp -dsimp[h2,z4,↓e5,h6,q7,h9,q10,w11];done|simp_all))
  ·have z4:¬((i:Int)<(a.length:Int)):=auz
   cases hF
   repeat first|refine cg ?_|simp -dsimp[h2,q3,z4]
   refine Leave.go _ (Gh.to3 (by simp) (by first|simp -dsimp[h2,q3,z4];done|simp_all)) hq
theorem C.f89 (a:List PathBind)(k:Int)(r:Int)(hF:F.f89 a k=some r):PureCall Try.prog B 37 [am PathBind.c a,li k] (li r):=by
 unfold F.f89 at hF
 refine PureCall.enterLe Try.func37 (by kernel_rfl) rfl Try.ntmps37 (by simp) (by simp) ?_
 repeat first|refine cg ?_|simp -dsimp
 have hF:=ob hF;obtain⟨o',ho12,hF⟩:=hF
 refine ALoop.goU _ ?_ (((CC.f88 B hB1 hB2 a) k 0 o' ho12) _ rfl _ ?_)
 ·exact(Gh.to3 (by simp) (by simp -dsimp))
 rcases o' with r0|sx
 ·dsimp only at hF
  cases hF
  intro st h
  simpa using h
 ·dsimp only at hF
  cases hF
  repeat first|refine cg ?_|simp -dsimp
  all_goals(try first|omega|rfl)
theorem CC.f90 (a:List Vl.Edge):(∀(k1:Int) (i:Nat) (o:Lo Int Int),F.f90 a k1 i=some o→∀(c:Code),ZAC [1,0,1,0,0] (ZL Try.f39)=some c→∀(Q:Exit→ASt→Prop),o.post (fun r=>∀st,ZBb Try.prog Try.f39 (fun r' _=>r'.le (li r)) .ret st→Q .ret st) (fun s=>Q (.exit 0) ⟨[(1,li s)],[]⟩)→ALoopU Try.prog B 0 49 (hold c .mk) ⟨[(0,am Vl.Edge.c a),(1,li k1),(5,li (i:Int))],[]⟩ (hold Q .mk)):=by
 refine F.f90.partial_correctness a
  _
  ?_
 ·intro _f_f90 ih_f90 k1 i o hF
  intro c hc Q hq
  obtain rfl:c=_:=ZS hc rfl
  refine ALoopU.know fun hk hs=> ?_
  have b0:=hk 0
  simp -dsimp at b0
  clear hk hs
  refine ALoopU.enter ?_
  repeat first|refine cg ?_|simp -dsimp
  revert hF;refine abr.sp ?_ ?_<;>intro h2 q3 hF
  ·have z4:((i:Int)<(a.length:Int)):=auz
   have hF:=ob hF;obtain⟨x,e5,hF⟩:=hF
   have le5:=ZD e5
   repeat first|refine cg ?_|simp -dsimp[h2,z4,↓e5]
   revert hF;refine abr.ns ?_ ?_<;>intro h6 q7 hF
   ·cases hF
    repeat first|refine cg ?_|simp -dsimp[h2,z4,↓e5,h6,q7]
    refine Leave.go _ (Gh.refl _) (hq _ ?_)
    repeat first|refine cg ?_|simp -dsimp[h2,z4,↓e5,h6,q7]
   ·repeat first|refine cg ?_|simp -dsimp[h2,z4,↓e5,h6,q7]
    revert hF;refine abr.ns ?_ ?_<;>intro h8 q9 hF
    ·cases hF
     repeat first|refine cg ?_|simp -dsimp[h2,z4,↓e5,h6,q7,h8,q9]
     refine Leave.go _ (Gh.refl _) (hq _ ?_)
     repeat first|refine cg ?_|simp -dsimp[h2,z4,↓e5,h6,q7,h8,q9]
    ·repeat first|refine cg ?_|simp -dsimp[h2,z4,↓e5,h6,q7,h8,q9]
     revert hF;refine abr.ns ?_ ?_<;>intro h10 q11 hF
     ·cases hF
      repeat first|refine cg ?_|simp -dsimp[h2,z4,↓e5,h6,q7,h8,q9,h10,q11]
      refine Leave.go _ (Gh.refl _) (hq _ ?_)
      repeat first|refine cg ?_|simp -dsimp[h2,z4,↓e5,h6,q7,h8,q9,h10,q11]
     ·repeat first|refine cg ?_|simp -dsimp[h2,z4,↓e5,h6,q7,h8,q9,h10,q11]
      revert hF;refine abr.ns ?_ ?_<;>intro h12 q13 hF
      ·cases hF
       repeat first|refine cg ?_|simp -dsimp[h2,z4,↓e5,h6,q7,h8,q9,h10,q11,h12,q13]
       refine Leave.go _ (Gh.refl _) (hq _ ?_)
       repeat first|refine cg ?_|simp -dsimp[h2,z4,↓e5,h6,q7,h8,q9,h10,q11,h12,q13]
      ·have w14:IntKind.i64.wrap ((i:Int)+1)=(i:Int)+1:=ZB (by omega) (by omega)
       repeat first|refine cg ?_|simp -dsimp[h2,z4,↓e5,h6,q7,h8,q9,h10,q11,h12,q13,w14]
       refine Again.go _ ?_ ((ih_f90 (IntKind.i64.wrap (IntKind.i64.wrap (IntKind.i64.wrap (IntKind.i64.wrap (k1+1)+1)+1)+1)) (i+1) o hF) _ rfl _ hq)
       exact(Gh.to3 (by simp) (by first|simp -dsimp[h2,z4,↓e5,h6,q7,h8,q9,h10,q11,h12,q13,w14];done|simp_all))
  ·have z4:¬((i:Int)<(a.length:Int)):=auz
   cases hF
   repeat first|refine cg ?_|simp -dsimp[h2,q3,z4]
   refine Leave.go _ (Gh.to3 (by simp) (by first|simp -dsimp[h2,q3,z4];done|simp_all)) hq
theorem C.f91 (a:List Vl.Edge)(k:Int)(r:Int)(hF:F.f91 a k=some r):PureCall Try.prog B 39 [am Vl.Edge.c a,li k] (li r):=by
 unfold F.f91 at hF
 refine PureCall.enterLe Try.func39 (by kernel_rfl) rfl Try.ntmps39 (by simp) (by simp) ?_
 repeat first|refine cg ?_|simp -dsimp
 have hF:=ob hF;obtain⟨o',ho15,hF⟩:=hF
 refine ALoop.goU _ ?_ (((CC.f90 B hB1 hB2 a) k 0 o' ho15) _ rfl _ ?_)
 ·exact(Gh.to3 (by simp) (by simp -dsimp))
 rcases o' with r0|sx
 ·dsimp only at hF
  cases hF
  intro st h
  simpa using h
 ·dsimp only at hF
  cases hF
  repeat first|refine cg ?_|simp -dsimp
  all_goals(try first|omega|rfl)
theorem CC.f92 (a:List Vl.Node):(∀(k1:Int) (i:Nat) (o:Lo Int Int),F.f92 a k1 i=some o→∀(c:Code),ZAC [1,0,1,0,0] (ZL Try.f12)=some c→∀(Q:Exit→ASt→Prop),o.post (fun r=>∀st,ZBb Try.prog Try.f12 (fun r' _=>r'.le (li r)) .ret st→Q .ret st) (fun s=>Q (.exit 0) ⟨[(1,li s)],[]⟩)→ALoopU Try.prog B 0 67 (hold c .mk) ⟨[(0,am Vl.Node.c a),(1,li k1),(5,li (i:Int))],[]⟩ (hold Q .mk)):=by
 refine F.f92.partial_correctness a
  _
  ?_
 ·intro _f_f92 ih_f92 k1 i o hF
  intro c hc Q hq
  obtain rfl:c=_:=ZS hc rfl
  refine ALoopU.know fun hk hs=> ?_
  have b0:=hk 0
  simp -dsimp at b0
  clear hk hs
  refine ALoopU.enter ?_
  repeat first|refine cg ?_|simp -dsimp
  revert hF;refine abr.sp ?_ ?_<;>intro h2 q3 hF
  ·have z4:((i:Int)<(a.length:Int)):=auz
   have hF:=ob hF;obtain⟨x,e5,hF⟩:=hF
   have le5:=ZD e5
   repeat first|refine cg ?_|simp -dsimp[h2,z4,↓e5]
   revert hF;refine abr.ns ?_ ?_<;>intro h6 q7 hF
   ·cases hF
    repeat first|refine cg ?_|simp -dsimp[h2,z4,↓e5,h6,q7]
    refine Leave.go _ (Gh.refl _) (hq _ ?_)
    repeat first|refine cg ?_|simp -dsimp[h2,z4,↓e5,h6,q7]
   ·repeat first|refine cg ?_|simp -dsimp[h2,z4,↓e5,h6,q7]
    revert hF;refine abr.ns ?_ ?_<;>intro h8 q9 hF
    ·cases hF
     repeat first|refine cg ?_|simp -dsimp[h2,z4,↓e5,h6,q7,h8,q9]
     refine Leave.go _ (Gh.refl _) (hq _ ?_)
     repeat first|refine cg ?_|simp -dsimp[h2,z4,↓e5,h6,q7,h8,q9]
    ·repeat first|refine cg ?_|simp -dsimp[h2,z4,↓e5,h6,q7,h8,q9]
     have hF:=ob hF;obtain⟨v,e10,hF⟩:=hF
     refine((C.f89 B hB1 hB2 x.binds (IntKind.i64.wrap (IntKind.i64.wrap (k1+1)+1)) v e10)).goW (by first|simp[h2,z4,↓e5,h6,q7,h8,q9];done|simp_all) (by simp) ?_
     repeat first|refine cg ?_|simp -dsimp[h2,z4,↓e5,h6,q7,h8,q9]
     revert hF;refine abr.sp ?_ ?_<;>intro h11 q12 hF
     ·cases hF
      repeat first|refine cg ?_|simp -dsimp[h2,z4,↓e5,h6,q7,h8,q9,h11]
      refine Leave.go _ (Gh.refl _) (hq _ ?_)
      repeat first|refine cg ?_|simp -dsimp[h2,z4,↓e5,h6,q7,h8,q9,h11]
     ·repeat first|refine cg ?_|simp -dsimp[h2,z4,↓e5,h6,q7,h8,q9,h11,q12]
      have hF:=ob hF;obtain⟨v13,e14,hF⟩:=hF
      refine((C.f87 B hB1 hB2 x.path v v13 e14)).goW (by first|simp[h2,z4,↓e5,h6,q7,h8,q9,h11,q12];done|simp_all) (by simp) ?_
      repeat first|refine cg ?_|simp -dsimp[h2,z4,↓e5,h6,q7,h8,q9,h11,q12]
      revert hF;refine abr.sp ?_ ?_<;>intro h15 q16 hF
      ·cases hF
       repeat first|refine cg ?_|simp -dsimp[h2,z4,↓e5,h6,q7,h8,q9,h11,q12,h15]
       refine Leave.go _ (Gh.refl _) (hq _ ?_)
       repeat first|refine cg ?_|simp -dsimp[h2,z4,↓e5,h6,q7,h8,q9,h11,q12,h15]
      ·repeat first|refine cg ?_|simp -dsimp[h2,z4,↓e5,h6,q7,h8,q9,h11,q12,h15,q16]
       have hF:=ob hF;obtain⟨v17,e18,hF⟩:=hF
       refine((C.f91 B hB1 hB2 x.edges v13 v17 e18)).goW (by first|simp[h2,z4,↓e5,h6,q7,h8,q9,h11,q12,h15,q16];done|simp_all) (by simp) ?_
       repeat first|refine cg ?_|simp -dsimp[h2,z4,↓e5,h6,q7,h8,q9,h11,q12,h15,q16]
       revert hF;refine abr.sp ?_ ?_<;>intro h19 q20 hF
       ·cases hF
        repeat first|refine cg ?_|simp -dsimp[h2,z4,↓e5,h6,q7,h8,q9,h11,q12,h15,q16,h19]
        refine Leave.go _ (Gh.refl _) (hq _ ?_)
        repeat first|refine cg ?_|simp -dsimp[h2,z4,↓e5,h6,q7,h8,q9,h11,q12,h15,q16,h19]
       ·repeat first|refine cg ?_|simp -dsimp[h2,z4,↓e5,h6,q7,h8,q9,h11,q12,h15,q16,h19,q20]
        revert hF;refine abr.ns ?_ ?_<;>intro h21 q22 hF
        ·cases hF
         repeat first|refine cg ?_|simp -dsimp[h2,z4,↓e5,h6,q7,h8,q9,h11,q12,h15,q16,h19,q20,h21,q22]
         refine Leave.go _ (Gh.refl _) (hq _ ?_)
         repeat first|refine cg ?_|simp -dsimp[h2,z4,↓e5,h6,q7,h8,q9,h11,q12,h15,q16,h19,q20,h21,q22]
        ·have w23:IntKind.i64.wrap ((i:Int)+1)=(i:Int)+1:=ZB (by omega) (by omega)
         repeat first|refine cg ?_|simp -dsimp[h2,z4,↓e5,h6,q7,h8,q9,h11,q12,h15,q16,h19,q20,h21,q22,w23]
         refine Again.go _ ?_ ((ih_f92 (IntKind.i64.wrap (v17+1)) (i+1) o hF) _ rfl _ hq)
         exact(Gh.to3 (by simp) (by first|simp -dsimp[h2,z4,↓e5,h6,q7,h8,q9,h11,q12,h15,q16,h19,q20,h21,q22,w23];done|simp_all))
  ·have z4:¬((i:Int)<(a.length:Int)):=auz
   cases hF
   repeat first|refine cg ?_|simp -dsimp[h2,q3,z4]
   refine Leave.go _ (Gh.to3 (by simp) (by first|simp -dsimp[h2,q3,z4];done|simp_all)) hq
theorem C.f93 (a:List Vl.Node)(k:Int)(r:Int)(hF:F.f93 a k=some r):PureCall Try.prog B 12 [am Vl.Node.c a,li k] (li r):=by
 unfold F.f93 at hF
 refine PureCall.enterLe Try.func12 (by kernel_rfl) rfl Try.ntmps12 (by simp) (by simp) ?_
 repeat first|refine cg ?_|simp -dsimp
 have hF:=ob hF;obtain⟨o',ho24,hF⟩:=hF
 refine ALoop.goU _ ?_ (((CC.f92 B hB1 hB2 a) k 0 o' ho24) _ rfl _ ?_)
 ·exact(Gh.to3 (by simp) (by simp -dsimp))
 rcases o' with r0|sx
 ·dsimp only at hF
  cases hF
  intro st h
  simpa using h
 ·dsimp only at hF
  cases hF
  repeat first|refine cg ?_|simp -dsimp
  all_goals(try first|omega|rfl)
theorem CM.laws_markEdgeS :∀m:Nat,(∀(a:List Vl.Edge) (k:Int),SizeOf.sizeOf a<m→MCall Try.prog B 36 (List.map Vl.Edge.c a) [.int .i64 k] (List.map Vl.Edge.c (Vl.Edge.mkL a k).1) (.int .i64 (Vl.Edge.mkL a k).2)):=by
 intro m
 induction m with
 |zero=>exact fun a k h=>absurd h (Nat.not_lt_zero _)
 |succ m ih=>
  intro a0 k0 hm
  have hz0:∀x,x∈a0→SizeOf.sizeOf x<m:=fun x hx=>by have:=List.sizeOf_lt_of_mem hx;omega
  have loop:∀(rest D:List Vl.Edge) (k:Int) (i n:Nat) (rows:List (List AV)) (us:List Go.Value),(∀x,x∈rest→SizeOf.sizeOf x<m)→i=D.length→n=i+rest.length→RW 4 n rows us→
    ∀(c:Code),ZAC [1,0,1,0,0] (ZL Try.f36)=some c→∀(Q:Exit→ASt→Prop),
    (∀(R:List (List AV)) (U:List Go.Value),RW 4 n R U→Q (.exit 0) ⟨[(1,.lit (.int .i64 (Vl.Edge.mkL rest k).2))],[.elems 4 R,.pack (List.flatten (List.map Vl.Edge.c (D++(Vl.Edge.mkL rest k).1))) U]⟩)→
    ALoopU Try.prog B 2 41 (hold c .mk) ⟨[(0,.own 0 n),(1,.lit (.int .i64 k)),(5,.lit (.int .i64 (i:Int)))],[.elems 4 rows,.pack (List.flatten (List.map Vl.Edge.c (D++rest))) us]⟩ (hold Q .mk):=by
   intro rest
   induction rest with
   |nil=>
    intro D k i n rows us hz hi hn H c hc Q hq
    obtain rfl:c=_:=ZS hc rfl
    have hn':n=i:=by simpa using hn
    subst hn'
    refine ALoopU.enter ?_
    repeat first|refine cg ?_|simp -dsimp[RW.len H]
    refine Leave.go ⟨[(1,.lit (.int .i64 k))],[.elems 4 rows,.pack (List.flatten (List.map Vl.Edge.c D)) us]⟩ (Gh.to3 (by simp) (by simp -dsimp[RW.closed H])) ?_
    simpa[Vl.Edge.mkL]using hq rows us H
   |cons x r ihr=>
    intro D k i n rows us hz hi hn H c hc Q hq
    refine ALoopU.opnAt 1 (List.flatten (List.map Vl.Edge.c D)) (Vl.Edge.c x) (List.flatten (List.map Vl.Edge.c r)) rfl (by simp) ?_
    intro hs vs UA UC hl ho hlt hU hlA
    have hs0:hs=[]:=List.length_eq_zero_iff.1 (by simpa using hl)
    subst hs0
    have hv:vs=[.int .i64 x.ctor,.int .i64 x.n,.int .i64 x.m,.int .i64 x.to]:=by apply ZBQ;rw[←hlt];simp
    subst hv hU
    have hUA:UA.length=i*4:=by rw[hlA,ZAK Vl.Edge.c_len,hi]
    have hin:i<n:=by simp at hn;omega
    have hrow:rows[i]? =some [.lit (.int .i64 x.ctor),.lit (.int .i64 x.n),.lit (.int .i64 x.m),.lit (.int .i64 x.to)]:=by simpa using H.at hin rfl hUA rfl
    have hne:¬rows=[]:=by intro e;rw[e]at hrow;simp at hrow
    have hrl:=RW.len H
    have hrow':∀(h:i<rows.length),rows[i]=[.lit (.int .i64 x.ctor),.lit (.int .i64 x.n),.lit (.int .i64 x.m),.lit (.int .i64 x.to)]:=fun h=>by rw[List.getElem?_eq_getElem h]at hrow;exact Option.some.inj hrow
    have hset:∀a,(rows.set i a)[i]? =some a:=fun a=>List.getElem?_set_self (by omega)
    clear hlt
    refine ALoopU.know fun hk hs=> ?_
    have d0:=hs 0 _ rfl
    simp -dsimp[Blk.bnd]at d0
    clear hk hs
    obtain rfl:c=_:=ZS hc rfl
    have w1:IntKind.i64.wrap ((i:Int)+1)=(i:Int)+1:=ZB (by omega) (by omega)
    refine ALoopU.enter ?_
    repeat first|refine cg ?_|simp -dsimp[hne,hrow,hrow',hset,hrl,hin,w1,List.set_set]
    refine Again.go ⟨[(0,.own 0 n),(1,.lit (.int .i64 (IntKind.i64.wrap ((IntKind.i64.wrap ((IntKind.i64.wrap ((IntKind.i64.wrap (k+1))+1))+1))+1)))),(5,.lit (.int .i64 ((i+1:Nat):Int)))],[.elems 4 (rows.set i [.lit (.int .i64 k),.lit (.int .i64 (IntKind.i64.wrap (k+1))),.lit (.int .i64 (IntKind.i64.wrap ((IntKind.i64.wrap (k+1))+1))),.lit (.int .i64 (IntKind.i64.wrap ((IntKind.i64.wrap ((IntKind.i64.wrap (k+1))+1))+1)))]),.pack (List.flatten (List.map Vl.Edge.c ((D++[(⟨k,IntKind.i64.wrap (k+1),IntKind.i64.wrap ((IntKind.i64.wrap (k+1))+1),IntKind.i64.wrap ((IntKind.i64.wrap ((IntKind.i64.wrap (k+1))+1))+1)⟩:Vl.Edge)])++r))) (UA++([.int .i64 k,.int .i64 (IntKind.i64.wrap (k+1)),.int .i64 (IntKind.i64.wrap ((IntKind.i64.wrap (k+1))+1)),.int .i64 (IntKind.i64.wrap ((IntKind.i64.wrap ((IntKind.i64.wrap (k+1))+1))+1))]++UC))]⟩
     (by refine Gh.trans (Gh.setAt 1 [] (XA:=List.flatten (List.map Vl.Edge.c D)) (old:=[.lit (.int .i64 x.ctor),.lit (.int .i64 x.n),.lit (.int .i64 x.m),.lit (.int .i64 x.to)]) (XC:=List.flatten (List.map Vl.Edge.c r)) (UA:=UA) (uo:=[.int .i64 x.ctor,.int .i64 x.n,.int .i64 x.m,.int .i64 x.to]) (UC:=UC) (by exact rfl) (by simp) (by simp) hlA rfl (.lit (.int .i64 k) (.lit (.int .i64 (IntKind.i64.wrap (k+1))) (.lit (.int .i64 (IntKind.i64.wrap ((IntKind.i64.wrap (k+1))+1))) (.lit (.int .i64 (IntKind.i64.wrap ((IntKind.i64.wrap ((IntKind.i64.wrap (k+1))+1))+1))) .nil)))) (by decide)) ?_;exact Gh.to3 (by simp) (by simp -dsimp[RW.closed H])) ?_
    have he:Vl.Edge.mkL (x::r) k=((⟨k,IntKind.i64.wrap (k+1),IntKind.i64.wrap ((IntKind.i64.wrap (k+1))+1),IntKind.i64.wrap ((IntKind.i64.wrap ((IntKind.i64.wrap (k+1))+1))+1)⟩:Vl.Edge)::(Vl.Edge.mkL r (IntKind.i64.wrap ((IntKind.i64.wrap ((IntKind.i64.wrap ((IntKind.i64.wrap (k+1))+1))+1))+1))).1,(Vl.Edge.mkL r (IntKind.i64.wrap ((IntKind.i64.wrap ((IntKind.i64.wrap ((IntKind.i64.wrap (k+1))+1))+1))+1))).2):=by(first|rfl|(cases x;simp[Vl.Edge.mkL,Vl.Edge.mkE]))
    rw[he]at hq
    refine ihr (D++[(⟨k,IntKind.i64.wrap (k+1),IntKind.i64.wrap ((IntKind.i64.wrap (k+1))+1),IntKind.i64.wrap ((IntKind.i64.wrap ((IntKind.i64.wrap (k+1))+1))+1)⟩:Vl.Edge)]) _ (i+1) n _ _ (fun y hy=>hz y (List.mem_cons_of_mem _ hy)) (by simp[hi]) (by simp at hn;omega) (by simpa using H.setAt hin hUA rfl [.int .i64 k,.int .i64 (IntKind.i64.wrap (k+1)),.int .i64 (IntKind.i64.wrap ((IntKind.i64.wrap (k+1))+1)),.int .i64 (IntKind.i64.wrap ((IntKind.i64.wrap ((IntKind.i64.wrap (k+1))+1))+1))] rfl) _ rfl _ fun R U hR=> ?_
    simpa using hq R U hR
  refine MCall.enter 4 Try.func36 (by kernel_rfl) rfl Try.ntmps36 (by simp) (by simp[Vl.Edge.mkL_len]) (fun e he=>by obtain⟨x,_,rfl⟩:=List.mem_map.1 he;exact Vl.Edge.c_len x) ?_ ?_
  ·intro he
   have he:a0=[]:=by simpa using he
   subst he
   repeat first|refine cg ?_|simp -dsimp
   refine ALoop.goU ⟨[(0,.arr []),(1,.lit (.int .i64 k0)),(5,.lit (.int .i64 0))],[]⟩ (Gh.to3 (by simp) (by simp -dsimp)) ?_
   refine ALoopU.enter ?_
   repeat first|refine cg ?_|simp -dsimp
   refine Leave.go _ (Gh.refl _) ?_
   repeat first|refine cg ?_|simp -dsimp
   all_goals(try simp[Vl.Edge.mkL])
  ·intro hne rows us e1 e2 e3 e4
   have H:RW 4 a0.length rows us:=⟨by simpa using e2,e3,e1⟩
   repeat first|refine cg ?_|simp -dsimp
   refine ALoop.goU ⟨[(0,.own 0 a0.length),(1,.lit (.int .i64 k0)),(5,.lit (.int .i64 ((0:Nat):Int)))],[.elems 4 rows,.pack (List.flatten (List.map Vl.Edge.c ([]++a0))) us]⟩ (Gh.to3 (by simp) (by simp -dsimp[RW.closed H])) ?_
   refine loop a0 [] k0 0 a0.length rows us hz0 rfl (by simp) H _ rfl _ ?_
   intro R U hR
   repeat first|refine cg ?_|simp -dsimp
   exact⟨rfl,R,U,rfl,⟨1,by simp⟩,hR.2.2,by rw[hR.1];simp[Vl.Edge.mkL_len],fun x hx=>by obtain⟨y,_,rfl⟩:=List.mem_map.1 hx;exact Vl.Edge.c_len y⟩
theorem C.f96 (a:List Vl.Edge)(k:Int)(v:List Vl.Edge×Int)(hF:F.f96 a k=some v):MCall Try.prog B 36 (List.map Vl.Edge.c a) [.int .i64 k] (List.map Vl.Edge.c v.1) (.int .i64 v.2):=by
 obtain rfl:=Option.some.inj hF
 exact(CM.laws_markEdgeS B hB1 hB2 (SizeOf.sizeOf a+1)) a k (Nat.lt_succ_self _)
theorem CM.laws_markIntS :∀m:Nat,(∀(a:List Int) (k:Int),SizeOf.sizeOf a<m→MCall Try.prog B 33 (List.map cI a) [.int .i64 k] (List.map cI (mkI a k).1) (.int .i64 (mkI a k).2)):=by
 intro m
 induction m with
 |zero=>exact fun a k h=>absurd h (Nat.not_lt_zero _)
 |succ m ih=>
  intro a0 k0 hm
  have hz0:∀x,x∈a0→SizeOf.sizeOf x<m:=fun x hx=>by have:=List.sizeOf_lt_of_mem hx;omega
  have loop:∀(rest D:List Int) (k:Int) (i n:Nat) (rows:List (List AV)) (us:List Go.Value),(∀x,x∈rest→SizeOf.sizeOf x<m)→i=D.length→n=i+rest.length→RW 1 n rows us→
    ∀(c:Code),ZAC [1,0,1,0,0] (ZL Try.f33)=some c→∀(Q:Exit→ASt→Prop),
    (∀(R:List (List AV)) (U:List Go.Value),RW 1 n R U→Q (.exit 0) ⟨[(1,.lit (.int .i64 (mkI rest k).2))],[.elems 1 R,.pack (List.flatten (List.map cI (D++(mkI rest k).1))) U]⟩)→
    ALoopU Try.prog B 2 19 (hold c .mk) ⟨[(0,.own 0 n),(1,.lit (.int .i64 k)),(5,.lit (.int .i64 (i:Int)))],[.elems 1 rows,.pack (List.flatten (List.map cI (D++rest))) us]⟩ (hold Q .mk):=by
   intro rest
   induction rest with
   |nil=>
    intro D k i n rows us hz hi hn H c hc Q hq
    obtain rfl:c=_:=ZS hc rfl
    have hn':n=i:=by simpa using hn
    subst hn'
    refine ALoopU.enter ?_
    repeat first|refine cg ?_|simp -dsimp[RW.len H]
    refine Leave.go ⟨[(1,.lit (.int .i64 k))],[.elems 1 rows,.pack (List.flatten (List.map cI D)) us]⟩ (Gh.to3 (by simp) (by simp -dsimp[RW.closed H])) ?_
    simpa[mkI]using hq rows us H
   |cons x r ihr=>
    intro D k i n rows us hz hi hn H c hc Q hq
    refine ALoopU.opnAt 1 (List.flatten (List.map cI D)) (cI x) (List.flatten (List.map cI r)) rfl (by simp) ?_
    intro hs vs UA UC hl ho hlt hU hlA
    have hs0:hs=[]:=List.length_eq_zero_iff.1 (by simpa using hl)
    subst hs0
    have hv:vs=[.int .i64 x]:=by apply ZBQ;rw[←hlt];simp
    subst hv hU
    have hUA:UA.length=i*1:=by rw[hlA,ZAK ZJB,hi]
    have hin:i<n:=by simp at hn;omega
    have hrow:rows[i]? =some [.lit (.int .i64 x)]:=by simpa using H.at hin rfl hUA rfl
    have hne:¬rows=[]:=by intro e;rw[e]at hrow;simp at hrow
    have hrl:=RW.len H
    have hrow':∀(h:i<rows.length),rows[i]=[.lit (.int .i64 x)]:=fun h=>by rw[List.getElem?_eq_getElem h]at hrow;exact Option.some.inj hrow
    have hset:∀a,(rows.set i a)[i]? =some a:=fun a=>List.getElem?_set_self (by omega)
    clear hlt
    refine ALoopU.know fun hk hs=> ?_
    have d0:=hs 0 _ rfl
    simp -dsimp[Blk.bnd]at d0
    clear hk hs
    obtain rfl:c=_:=ZS hc rfl
    have w1:IntKind.i64.wrap ((i:Int)+1)=(i:Int)+1:=ZB (by omega) (by omega)
    refine ALoopU.enter ?_
    repeat first|refine cg ?_|simp -dsimp[hne,hrow,hrow',hset,hrl,hin,w1,List.set_set]
    refine Again.go ⟨[(0,.own 0 n),(1,.lit (.int .i64 (IntKind.i64.wrap (k+1)))),(5,.lit (.int .i64 ((i+1:Nat):Int)))],[.elems 1 (rows.set i [.lit (.int .i64 k)]),.pack (List.flatten (List.map cI ((D++[k])++r))) (UA++([.int .i64 k]++UC))]⟩
     (by refine Gh.trans (Gh.setAt 1 [] (XA:=List.flatten (List.map cI D)) (old:=[.lit (.int .i64 x)]) (XC:=List.flatten (List.map cI r)) (UA:=UA) (uo:=[.int .i64 x]) (UC:=UC) (by exact rfl) (by simp) (by simp) hlA rfl (.lit (.int .i64 k) .nil) (by decide)) ?_;exact Gh.to3 (by simp) (by simp -dsimp[RW.closed H])) ?_
    have he:mkI (x::r) k=(k::(mkI r (IntKind.i64.wrap (k+1))).1,(mkI r (IntKind.i64.wrap (k+1))).2):=by rfl
    rw[he]at hq
    refine ihr (D++[k]) _ (i+1) n _ _ (fun y hy=>hz y (List.mem_cons_of_mem _ hy)) (by simp[hi]) (by simp at hn;omega) (by simpa using H.setAt hin hUA rfl [.int .i64 k] rfl) _ rfl _ fun R U hR=> ?_
    simpa using hq R U hR
  refine MCall.enter 1 Try.func33 (by kernel_rfl) rfl Try.ntmps33 (by simp) (by simp[ZFq]) (fun e he=>by obtain⟨x,_,rfl⟩:=List.mem_map.1 he;exact ZJB x) ?_ ?_
  ·intro he
   have he:a0=[]:=by simpa using he
   subst he
   repeat first|refine cg ?_|simp -dsimp
   refine ALoop.goU ⟨[(0,.arr []),(1,.lit (.int .i64 k0)),(5,.lit (.int .i64 0))],[]⟩ (Gh.to3 (by simp) (by simp -dsimp)) ?_
   refine ALoopU.enter ?_
   repeat first|refine cg ?_|simp -dsimp
   refine Leave.go _ (Gh.refl _) ?_
   repeat first|refine cg ?_|simp -dsimp
   all_goals(try simp[mkI])
  ·intro hne rows us e1 e2 e3 e4
   have H:RW 1 a0.length rows us:=⟨by simpa using e2,e3,e1⟩
   repeat first|refine cg ?_|simp -dsimp
   refine ALoop.goU ⟨[(0,.own 0 a0.length),(1,.lit (.int .i64 k0)),(5,.lit (.int .i64 ((0:Nat):Int)))],[.elems 1 rows,.pack (List.flatten (List.map cI ([]++a0))) us]⟩ (Gh.to3 (by simp) (by simp -dsimp[RW.closed H])) ?_
   refine loop a0 [] k0 0 a0.length rows us hz0 rfl (by simp) H _ rfl _ ?_
   intro R U hR
   repeat first|refine cg ?_|simp -dsimp
   exact⟨rfl,R,U,rfl,⟨1,by simp⟩,hR.2.2,by rw[hR.1];simp[ZFq],fun x hx=>by obtain⟨y,_,rfl⟩:=List.mem_map.1 hx;exact ZJB y⟩
theorem C.f94 (a:List Int)(k:Int)(v:List Int×Int)(hF:F.f94 a k=some v):MCall Try.prog B 33 (List.map cI a) [.int .i64 k] (List.map cI v.1) (.int .i64 v.2):=by
 obtain rfl:=Option.some.inj hF
 exact(CM.laws_markIntS B hB1 hB2 (SizeOf.sizeOf a+1)) a k (Nat.lt_succ_self _)
theorem CM.laws_markPathBindS :∀m:Nat,(∀(a:List PathBind) (k:Int),SizeOf.sizeOf a<m→MCall Try.prog B 32 (List.map PathBind.c a) [.int .i64 k] (List.map PathBind.c (PathBind.mkL a k).1) (.int .i64 (PathBind.mkL a k).2)):=by
 intro m
 induction m with
 |zero=>exact fun a k h=>absurd h (Nat.not_lt_zero _)
 |succ m ih=>
  intro a0 k0 hm
  have hz0:∀x,x∈a0→SizeOf.sizeOf x<m:=fun x hx=>by have:=List.sizeOf_lt_of_mem hx;omega
  have loop:∀(rest D:List PathBind) (k:Int) (i n:Nat) (rows:List (List AV)) (us:List Go.Value),(∀x,x∈rest→SizeOf.sizeOf x<m)→i=D.length→n=i+rest.length→RW 2 n rows us→
    ∀(c:Code),ZAC [1,0,1,0,0] (ZL Try.f32)=some c→∀(Q:Exit→ASt→Prop),
    (∀(R:List (List AV)) (U:List Go.Value),RW 2 n R U→Q (.exit 0) ⟨[(1,.lit (.int .i64 (PathBind.mkL rest k).2))],[.elems 2 R,.pack (List.flatten (List.map PathBind.c (D++(PathBind.mkL rest k).1))) U]⟩)→
    ALoopU Try.prog B 2 27 (hold c .mk) ⟨[(0,.own 0 n),(1,.lit (.int .i64 k)),(5,.lit (.int .i64 (i:Int)))],[.elems 2 rows,.pack (List.flatten (List.map PathBind.c (D++rest))) us]⟩ (hold Q .mk):=by
   intro rest
   induction rest with
   |nil=>
    intro D k i n rows us hz hi hn H c hc Q hq
    obtain rfl:c=_:=ZS hc rfl
    have hn':n=i:=by simpa using hn
    subst hn'
    refine ALoopU.enter ?_
    repeat first|refine cg ?_|simp -dsimp[RW.len H]
    refine Leave.go ⟨[(1,.lit (.int .i64 k))],[.elems 2 rows,.pack (List.flatten (List.map PathBind.c D)) us]⟩ (Gh.to3 (by simp) (by simp -dsimp[RW.closed H])) ?_
    simpa[PathBind.mkL]using hq rows us H
   |cons x r ihr=>
    intro D k i n rows us hz hi hn H c hc Q hq
    refine ALoopU.opnAt1 1 (List.flatten (List.map PathBind.c D)) (PathBind.c x) (List.flatten (List.map PathBind.c r)) rfl (by simp) (by simp) ?_
    intro h1 vs UA UC o_h1 hlt hU hlA
    have hv:vs=[.int .i64 x.var,h1]:=by apply ZBQ;rw[←hlt];simp
    subst hv hU
    have hUA:UA.length=i*2:=by rw[hlA,ZAK PathBind.c_len,hi]
    have hin:i<n:=by simp at hn;omega
    have hrow:rows[i]? =some [.lit (.int .i64 x.var),.lit h1]:=by simpa using H.at hin rfl hUA rfl
    have hne:¬rows=[]:=by intro e;rw[e]at hrow;simp at hrow
    have hrl:=RW.len H
    have hrow':∀(h:i<rows.length),rows[i]=[.lit (.int .i64 x.var),.lit h1]:=fun h=>by rw[List.getElem?_eq_getElem h]at hrow;exact Option.some.inj hrow
    have hset:∀a,(rows.set i a)[i]? =some a:=fun a=>List.getElem?_set_self (by omega)
    clear hlt
    refine ALoopU.know fun hk hs=> ?_
    have d0:=hs 0 _ rfl
    simp -dsimp[Blk.bnd]at d0
    clear hk hs
    obtain rfl:c=_:=ZS hc rfl
    have w1:IntKind.i64.wrap ((i:Int)+1)=(i:Int)+1:=ZB (by omega) (by omega)
    refine ALoopU.enter ?_
    repeat first|refine cg ?_|simp -dsimp[hne,hrow,hrow',hset,hrl,hin,w1,List.set_set,o_h1]
    refine(C.f94 B hB1 hB2 x.path (IntKind.i64.wrap (k+1)) _ rfl).go 2 rfl (by simp) ?_
    repeat first|refine cg ?_|simp -dsimp[hne,hrow,hrow',hset,hrl,hin,w1,List.set_set,o_h1]
    refine Again.go ⟨[(0,.own 0 n),(1,.lit (.int .i64 ((mkI x.path (IntKind.i64.wrap (k+1))).2))),(5,.lit (.int .i64 ((i+1:Nat):Int)))],[.elems 2 (rows.set i [.lit (.int .i64 k),.lit h1]),.pack (List.flatten (List.map PathBind.c ((D++[(⟨k,(mkI x.path (IntKind.i64.wrap (k+1))).1⟩:PathBind)])++r))) (UA++([.int .i64 k,h1]++UC))]⟩
     (by refine Gh.trans (Gh.setAt 1 [2] (XA:=List.flatten (List.map PathBind.c D)) (old:=[.lit (.int .i64 x.var),.lit h1]) (XC:=List.flatten (List.map PathBind.c r)) (UA:=UA) (uo:=[.int .i64 x.var,h1]) (UC:=UC) (by exact rfl) (by simp) (by simp) hlA rfl (.lit (.int .i64 k) (.pk 2 (by exact rfl) .nil)) (by decide)) ?_;exact Gh.to3 (by simp) (by simp -dsimp[RW.closed H])) ?_
    have he:PathBind.mkL (x::r) k=((⟨k,(mkI x.path (IntKind.i64.wrap (k+1))).1⟩:PathBind)::(PathBind.mkL r ((mkI x.path (IntKind.i64.wrap (k+1))).2)).1,(PathBind.mkL r ((mkI x.path (IntKind.i64.wrap (k+1))).2)).2):=by(first|rfl|(cases x;simp[PathBind.mkL,PathBind.mkE]))
    rw[he]at hq
    refine ihr (D++[(⟨k,(mkI x.path (IntKind.i64.wrap (k+1))).1⟩:PathBind)]) _ (i+1) n _ _ (fun y hy=>hz y (List.mem_cons_of_mem _ hy)) (by simp[hi]) (by simp at hn;omega) (by simpa using H.setAt hin hUA rfl [.int .i64 k,h1] rfl) _ rfl _ fun R U hR=> ?_
    simpa using hq R U hR
  refine MCall.enter 2 Try.func32 (by kernel_rfl) rfl Try.ntmps32 (by simp) (by simp[PathBind.mkL_len]) (fun e he=>by obtain⟨x,_,rfl⟩:=List.mem_map.1 he;exact PathBind.c_len x) ?_ ?_
  ·intro he
   have he:a0=[]:=by simpa using he
   subst he
   repeat first|refine cg ?_|simp -dsimp
   refine ALoop.goU ⟨[(0,.arr []),(1,.lit (.int .i64 k0)),(5,.lit (.int .i64 0))],[]⟩ (Gh.to3 (by simp) (by simp -dsimp)) ?_
   refine ALoopU.enter ?_
   repeat first|refine cg ?_|simp -dsimp
   refine Leave.go _ (Gh.refl _) ?_
   repeat first|refine cg ?_|simp -dsimp
   all_goals(try simp[PathBind.mkL])
  ·intro hne rows us e1 e2 e3 e4
   have H:RW 2 a0.length rows us:=⟨by simpa using e2,e3,e1⟩
   repeat first|refine cg ?_|simp -dsimp
   refine ALoop.goU ⟨[(0,.own 0 a0.length),(1,.lit (.int .i64 k0)),(5,.lit (.int .i64 ((0:Nat):Int)))],[.elems 2 rows,.pack (List.flatten (List.map PathBind.c ([]++a0))) us]⟩ (Gh.to3 (by simp) (by simp -dsimp[RW.closed H])) ?_
   refine loop a0 [] k0 0 a0.length rows us hz0 rfl (by simp) H _ rfl _ ?_
   intro R U hR
   repeat first|refine cg ?_|simp -dsimp
   exact⟨rfl,R,U,rfl,⟨1,by simp⟩,hR.2.2,by rw[hR.1];simp[PathBind.mkL_len],fun x hx=>by obtain⟨y,_,rfl⟩:=List.mem_map.1 hx;exact PathBind.c_len y⟩
theorem C.f95 (a:List PathBind)(k:Int)(v:List PathBind×Int)(hF:F.f95 a k=some v):MCall Try.prog B 32 (List.map PathBind.c a) [.int .i64 k] (List.map PathBind.c v.1) (.int .i64 v.2):=by
 obtain rfl:=Option.some.inj hF
 exact(CM.laws_markPathBindS B hB1 hB2 (SizeOf.sizeOf a+1)) a k (Nat.lt_succ_self _)
theorem CM.laws_markNodeS :∀m:Nat,(∀(a:List Vl.Node) (k:Int),SizeOf.sizeOf a<m→MCall Try.prog B 11 (List.map Vl.Node.c a) [.int .i64 k] (List.map Vl.Node.c (Vl.Node.mkL a k).1) (.int .i64 (Vl.Node.mkL a k).2)):=by
 intro m
 induction m with
 |zero=>exact fun a k h=>absurd h (Nat.not_lt_zero _)
 |succ m ih=>
  intro a0 k0 hm
  have hz0:∀x,x∈a0→SizeOf.sizeOf x<m:=fun x hx=>by have:=List.sizeOf_lt_of_mem hx;omega
  have loop:∀(rest D:List Vl.Node) (k:Int) (i n:Nat) (rows:List (List AV)) (us:List Go.Value),(∀x,x∈rest→SizeOf.sizeOf x<m)→i=D.length→n=i+rest.length→RW 6 n rows us→
    ∀(c:Code),ZAC [1,0,1,0,0] (ZL Try.f11)=some c→∀(Q:Exit→ASt→Prop),
    (∀(R:List (List AV)) (U:List Go.Value),RW 6 n R U→Q (.exit 0) ⟨[(1,.lit (.int .i64 (Vl.Node.mkL rest k).2))],[.elems 6 R,.pack (List.flatten (List.map Vl.Node.c (D++(Vl.Node.mkL rest k).1))) U]⟩)→
    ALoopU Try.prog B 2 55 (hold c .mk) ⟨[(0,.own 0 n),(1,.lit (.int .i64 k)),(5,.lit (.int .i64 (i:Int)))],[.elems 6 rows,.pack (List.flatten (List.map Vl.Node.c (D++rest))) us]⟩ (hold Q .mk):=by
   intro rest
   induction rest with
   |nil=>
    intro D k i n rows us hz hi hn H c hc Q hq
    obtain rfl:c=_:=ZS hc rfl
    have hn':n=i:=by simpa using hn
    subst hn'
    refine ALoopU.enter ?_
    repeat first|refine cg ?_|simp -dsimp[RW.len H]
    refine Leave.go ⟨[(1,.lit (.int .i64 k))],[.elems 6 rows,.pack (List.flatten (List.map Vl.Node.c D)) us]⟩ (Gh.to3 (by simp) (by simp -dsimp[RW.closed H])) ?_
    simpa[Vl.Node.mkL]using hq rows us H
   |cons x r ihr=>
    intro D k i n rows us hz hi hn H c hc Q hq
    refine ALoopU.opnAt3 1 (List.flatten (List.map Vl.Node.c D)) (Vl.Node.c x) (List.flatten (List.map Vl.Node.c r)) rfl (by simp) (by simp) ?_
    intro h1 h2 h3 vs UA UC o_h1 o_h2 o_h3 hlt hU hlA
    have hv:vs=[.int .i64 x.op,.int .i64 x.clause,h1,h2,h3,.int .i64 x.els]:=by apply ZBQ;rw[←hlt];simp
    subst hv hU
    have hUA:UA.length=i*6:=by rw[hlA,ZAK Vl.Node.c_len,hi]
    have hin:i<n:=by simp at hn;omega
    have hrow:rows[i]? =some [.lit (.int .i64 x.op),.lit (.int .i64 x.clause),.lit h1,.lit h2,.lit h3,.lit (.int .i64 x.els)]:=by simpa using H.at hin rfl hUA rfl
    have hne:¬rows=[]:=by intro e;rw[e]at hrow;simp at hrow
    have hrl:=RW.len H
    have hrow':∀(h:i<rows.length),rows[i]=[.lit (.int .i64 x.op),.lit (.int .i64 x.clause),.lit h1,.lit h2,.lit h3,.lit (.int .i64 x.els)]:=fun h=>by rw[List.getElem?_eq_getElem h]at hrow;exact Option.some.inj hrow
    have hset:∀a,(rows.set i a)[i]? =some a:=fun a=>List.getElem?_set_self (by omega)
    clear hlt
    refine ALoopU.know fun hk hs=> ?_
    have d0:=hs 0 _ rfl
    simp -dsimp[Blk.bnd]at d0
    clear hk hs
    obtain rfl:c=_:=ZS hc rfl
    have w1:IntKind.i64.wrap ((i:Int)+1)=(i:Int)+1:=ZB (by omega) (by omega)
    refine ALoopU.enter ?_
    repeat first|refine cg ?_|simp -dsimp[hne,hrow,hrow',hset,hrl,hin,w1,List.set_set,o_h1,o_h2,o_h3]
    refine(C.f95 B hB1 hB2 x.binds (IntKind.i64.wrap ((IntKind.i64.wrap (k+1))+1)) _ rfl).go 2 rfl (by simp) ?_
    repeat first|refine cg ?_|simp -dsimp[hne,hrow,hrow',hset,hrl,hin,w1,List.set_set,o_h1,o_h2,o_h3]
    refine(C.f94 B hB1 hB2 x.path ((PathBind.mkL x.binds (IntKind.i64.wrap ((IntKind.i64.wrap (k+1))+1))).2) _ rfl).go 3 rfl (by simp) ?_
    repeat first|refine cg ?_|simp -dsimp[hne,hrow,hrow',hset,hrl,hin,w1,List.set_set,o_h1,o_h2,o_h3]
    refine(C.f96 B hB1 hB2 x.edges ((mkI x.path ((PathBind.mkL x.binds (IntKind.i64.wrap ((IntKind.i64.wrap (k+1))+1))).2)).2) _ rfl).go 4 rfl (by simp) ?_
    repeat first|refine cg ?_|simp -dsimp[hne,hrow,hrow',hset,hrl,hin,w1,List.set_set,o_h1,o_h2,o_h3]
    refine Again.go ⟨[(0,.own 0 n),(1,.lit (.int .i64 (IntKind.i64.wrap (((Vl.Edge.mkL x.edges ((mkI x.path ((PathBind.mkL x.binds (IntKind.i64.wrap ((IntKind.i64.wrap (k+1))+1))).2)).2)).2)+1)))),(5,.lit (.int .i64 ((i+1:Nat):Int)))],[.elems 6 (rows.set i [.lit (.int .i64 k),.lit (.int .i64 (IntKind.i64.wrap (k+1))),.lit h1,.lit h2,.lit h3,.lit (.int .i64 ((Vl.Edge.mkL x.edges ((mkI x.path ((PathBind.mkL x.binds (IntKind.i64.wrap ((IntKind.i64.wrap (k+1))+1))).2)).2)).2))]),.pack (List.flatten (List.map Vl.Node.c ((D++[(⟨k,IntKind.i64.wrap (k+1),(PathBind.mkL x.binds (IntKind.i64.wrap ((IntKind.i64.wrap (k+1))+1))).1,(mkI x.path ((PathBind.mkL x.binds (IntKind.i64.wrap ((IntKind.i64.wrap (k+1))+1))).2)).1,(Vl.Edge.mkL x.edges ((mkI x.path ((PathBind.mkL x.binds (IntKind.i64.wrap ((IntKind.i64.wrap (k+1))+1))).2)).2)).1,(Vl.Edge.mkL x.edges ((mkI x.path ((PathBind.mkL x.binds (IntKind.i64.wrap ((IntKind.i64.wrap (k+1))+1))).2)).2)).2⟩:Vl.Node)])++r))) (UA++([.int .i64 k,.int .i64 (IntKind.i64.wrap (k+1)),h1,h2,h3,.int .i64 ((Vl.Edge.mkL x.edges ((mkI x.path ((PathBind.mkL x.binds (IntKind.i64.wrap ((IntKind.i64.wrap (k+1))+1))).2)).2)).2)]++UC))]⟩
     (by refine Gh.trans (Gh.setAt 1 [2,3,4] (XA:=List.flatten (List.map Vl.Node.c D)) (old:=[.lit (.int .i64 x.op),.lit (.int .i64 x.clause),.lit h1,.lit h2,.lit h3,.lit (.int .i64 x.els)]) (XC:=List.flatten (List.map Vl.Node.c r)) (UA:=UA) (uo:=[.int .i64 x.op,.int .i64 x.clause,h1,h2,h3,.int .i64 x.els]) (UC:=UC) (by exact rfl) (by simp) (by simp) hlA rfl (.lit (.int .i64 k) (.lit (.int .i64 (IntKind.i64.wrap (k+1))) (.pk 2 (by exact rfl) (.pk 3 (by exact rfl) (.pk 4 (by exact rfl) (.lit (.int .i64 ((Vl.Edge.mkL x.edges ((mkI x.path ((PathBind.mkL x.binds (IntKind.i64.wrap ((IntKind.i64.wrap (k+1))+1))).2)).2)).2)) .nil)))))) (by decide)) ?_;exact Gh.to3 (by simp) (by simp -dsimp[RW.closed H])) ?_
    have he:Vl.Node.mkL (x::r) k=((⟨k,IntKind.i64.wrap (k+1),(PathBind.mkL x.binds (IntKind.i64.wrap ((IntKind.i64.wrap (k+1))+1))).1,(mkI x.path ((PathBind.mkL x.binds (IntKind.i64.wrap ((IntKind.i64.wrap (k+1))+1))).2)).1,(Vl.Edge.mkL x.edges ((mkI x.path ((PathBind.mkL x.binds (IntKind.i64.wrap ((IntKind.i64.wrap (k+1))+1))).2)).2)).1,(Vl.Edge.mkL x.edges ((mkI x.path ((PathBind.mkL x.binds (IntKind.i64.wrap ((IntKind.i64.wrap (k+1))+1))).2)).2)).2⟩:Vl.Node)::(Vl.Node.mkL r (IntKind.i64.wrap (((Vl.Edge.mkL x.edges ((mkI x.path ((PathBind.mkL x.binds (IntKind.i64.wrap ((IntKind.i64.wrap (k+1))+1))).2)).2)).2)+1))).1,(Vl.Node.mkL r (IntKind.i64.wrap (((Vl.Edge.mkL x.edges ((mkI x.path ((PathBind.mkL x.binds (IntKind.i64.wrap ((IntKind.i64.wrap (k+1))+1))).2)).2)).2)+1))).2):=by(first|rfl|(cases x;simp[Vl.Node.mkL,Vl.Node.mkE]))
    rw[he]at hq
    refine ihr (D++[(⟨k,IntKind.i64.wrap (k+1),(PathBind.mkL x.binds (IntKind.i64.wrap ((IntKind.i64.wrap (k+1))+1))).1,(mkI x.path ((PathBind.mkL x.binds (IntKind.i64.wrap ((IntKind.i64.wrap (k+1))+1))).2)).1,(Vl.Edge.mkL x.edges ((mkI x.path ((PathBind.mkL x.binds (IntKind.i64.wrap ((IntKind.i64.wrap (k+1))+1))).2)).2)).1,(Vl.Edge.mkL x.edges ((mkI x.path ((PathBind.mkL x.binds (IntKind.i64.wrap ((IntKind.i64.wrap (k+1))+1))).2)).2)).2⟩:Vl.Node)]) _ (i+1) n _ _ (fun y hy=>hz y (List.mem_cons_of_mem _ hy)) (by simp[hi]) (by simp at hn;omega) (by simpa using H.setAt hin hUA rfl [.int .i64 k,.int .i64 (IntKind.i64.wrap (k+1)),h1,h2,h3,.int .i64 ((Vl.Edge.mkL x.edges ((mkI x.path ((PathBind.mkL x.binds (IntKind.i64.wrap ((IntKind.i64.wrap (k+1))+1))).2)).2)).2)] rfl) _ rfl _ fun R U hR=> ?_
    simpa using hq R U hR
  refine MCall.enter 6 Try.func11 (by kernel_rfl) rfl Try.ntmps11 (by simp) (by simp[Vl.Node.mkL_len]) (fun e he=>by obtain⟨x,_,rfl⟩:=List.mem_map.1 he;exact Vl.Node.c_len x) ?_ ?_
  ·intro he
   have he:a0=[]:=by simpa using he
   subst he
   repeat first|refine cg ?_|simp -dsimp
   refine ALoop.goU ⟨[(0,.arr []),(1,.lit (.int .i64 k0)),(5,.lit (.int .i64 0))],[]⟩ (Gh.to3 (by simp) (by simp -dsimp)) ?_
   refine ALoopU.enter ?_
   repeat first|refine cg ?_|simp -dsimp
   refine Leave.go _ (Gh.refl _) ?_
   repeat first|refine cg ?_|simp -dsimp
   all_goals(try simp[Vl.Node.mkL])
  ·intro hne rows us e1 e2 e3 e4
   have H:RW 6 a0.length rows us:=⟨by simpa using e2,e3,e1⟩
   repeat first|refine cg ?_|simp -dsimp
   refine ALoop.goU ⟨[(0,.own 0 a0.length),(1,.lit (.int .i64 k0)),(5,.lit (.int .i64 ((0:Nat):Int)))],[.elems 6 rows,.pack (List.flatten (List.map Vl.Node.c ([]++a0))) us]⟩ (Gh.to3 (by simp) (by simp -dsimp[RW.closed H])) ?_
   refine loop a0 [] k0 0 a0.length rows us hz0 rfl (by simp) H _ rfl _ ?_
   intro R U hR
   repeat first|refine cg ?_|simp -dsimp
   exact⟨rfl,R,U,rfl,⟨1,by simp⟩,hR.2.2,by rw[hR.1];simp[Vl.Node.mkL_len],fun x hx=>by obtain⟨y,_,rfl⟩:=List.mem_map.1 hx;exact Vl.Node.c_len y⟩
theorem C.f97 (a:List Vl.Node)(k:Int)(v:List Vl.Node×Int)(hF:F.f97 a k=some v):MCall Try.prog B 11 (List.map Vl.Node.c a) [.int .i64 k] (List.map Vl.Node.c v.1) (.int .i64 v.2):=by
 obtain rfl:=Option.some.inj hF
 exact(CM.laws_markNodeS B hB1 hB2 (SizeOf.sizeOf a+1)) a k (Nat.lt_succ_self _)
theorem CM.laws_markBranchS :∀m:Nat,(∀(a:List Branch) (k:Int),SizeOf.sizeOf a<m→MCall Try.prog B 34 (List.map Branch.c a) [.int .i64 k] (List.map Branch.c (Branch.mkL a k).1) (.int .i64 (Branch.mkL a k).2))∧
  (∀(a:List Tree) (k:Int),SizeOf.sizeOf a<m→MCall Try.prog B 35 (List.map Tree.c a) [.int .i64 k] (List.map Tree.c (Tree.mkL a k).1) (.int .i64 (Tree.mkL a k).2)):=by
 intro m
 induction m with
 |zero=>exact⟨fun a k h=>absurd h (Nat.not_lt_zero _),fun a k h=>absurd h (Nat.not_lt_zero _)⟩
 |succ m ih=>
  refine⟨?_,?_⟩
  ·intro a0 k0 hm
   have hz0:∀x,x∈a0→SizeOf.sizeOf x<m:=fun x hx=>by have:=List.sizeOf_lt_of_mem hx;omega
   have loop:∀(rest D:List Branch) (k:Int) (i n:Nat) (rows:List (List AV)) (us:List Go.Value),(∀x,x∈rest→SizeOf.sizeOf x<m)→i=D.length→n=i+rest.length→RW 9 n rows us→
     ∀(c:Code),ZAC [1,0,1,0,0] (ZL Try.f34)=some c→∀(Q:Exit→ASt→Prop),
     (∀(R:List (List AV)) (U:List Go.Value),RW 9 n R U→Q (.exit 0) ⟨[(1,.lit (.int .i64 (Branch.mkL rest k).2))],[.elems 9 R,.pack (List.flatten (List.map Branch.c (D++(Branch.mkL rest k).1))) U]⟩)→
     ALoopU Try.prog B 2 82 (hold c .mk) ⟨[(0,.own 0 n),(1,.lit (.int .i64 k)),(5,.lit (.int .i64 (i:Int)))],[.elems 9 rows,.pack (List.flatten (List.map Branch.c (D++rest))) us]⟩ (hold Q .mk):=by
    intro rest
    induction rest with
    |nil=>
     intro D k i n rows us hz hi hn H c hc Q hq
     obtain rfl:c=_:=ZS hc rfl
     have hn':n=i:=by simpa using hn
     subst hn'
     refine ALoopU.enter ?_
     repeat first|refine cg ?_|simp -dsimp[RW.len H]
     refine Leave.go ⟨[(1,.lit (.int .i64 k))],[.elems 9 rows,.pack (List.flatten (List.map Branch.c D)) us]⟩ (Gh.to3 (by simp) (by simp -dsimp[RW.closed H])) ?_
     simpa[Branch.mkL]using hq rows us H
    |cons x r ihr=>
     intro D k i n rows us hz hi hn H c hc Q hq
     refine ALoopU.opnAt4 1 (List.flatten (List.map Branch.c D)) (Branch.c x) (List.flatten (List.map Branch.c r)) rfl (by simp) (by simp) ?_
     intro h1 h2 h3 h4 vs UA UC o_h1 o_h2 o_h3 o_h4 hlt hU hlA
     have hv:vs=[.int .i64 x.ctor,.int .i64 x.n,.int .i64 x.m,.int .i64 x.tree.op,.int .i64 x.tree.clause,h1,h2,h3,h4]:=by apply ZBQ;rw[←hlt];simp
     subst hv hU
     have hUA:UA.length=i*9:=by rw[hlA,ZAK Branch.c_len,hi]
     have hin:i<n:=by simp at hn;omega
     have hrow:rows[i]? =some [.lit (.int .i64 x.ctor),.lit (.int .i64 x.n),.lit (.int .i64 x.m),.lit (.int .i64 x.tree.op),.lit (.int .i64 x.tree.clause),.lit h1,.lit h2,.lit h3,.lit h4]:=by simpa using H.at hin rfl hUA rfl
     have hne:¬rows=[]:=by intro e;rw[e]at hrow;simp at hrow
     have hrl:=RW.len H
     have hrow':∀(h:i<rows.length),rows[i]=[.lit (.int .i64 x.ctor),.lit (.int .i64 x.n),.lit (.int .i64 x.m),.lit (.int .i64 x.tree.op),.lit (.int .i64 x.tree.clause),.lit h1,.lit h2,.lit h3,.lit h4]:=fun h=>by rw[List.getElem?_eq_getElem h]at hrow;exact Option.some.inj hrow
     have hset:∀a,(rows.set i a)[i]? =some a:=fun a=>List.getElem?_set_self (by omega)
     clear hlt
     refine ALoopU.know fun hk hs=> ?_
     have d0:=hs 0 _ rfl
     simp -dsimp[Blk.bnd]at d0
     clear hk hs
     obtain rfl:c=_:=ZS hc rfl
     have w1:IntKind.i64.wrap ((i:Int)+1)=(i:Int)+1:=ZB (by omega) (by omega)
     refine ALoopU.enter ?_
     repeat first|refine cg ?_|simp -dsimp[hne,hrow,hrow',hset,hrl,hin,w1,List.set_set,o_h1,o_h2,o_h3,o_h4]
     refine(C.f95 B hB1 hB2 x.tree.binds (IntKind.i64.wrap ((IntKind.i64.wrap ((IntKind.i64.wrap ((IntKind.i64.wrap ((IntKind.i64.wrap (k+1))+1))+1))+1))+1)) _ rfl).go 2 rfl (by simp) ?_
     repeat first|refine cg ?_|simp -dsimp[hne,hrow,hrow',hset,hrl,hin,w1,List.set_set,o_h1,o_h2,o_h3,o_h4]
     refine(C.f94 B hB1 hB2 x.tree.path ((PathBind.mkL x.tree.binds (IntKind.i64.wrap ((IntKind.i64.wrap ((IntKind.i64.wrap ((IntKind.i64.wrap ((IntKind.i64.wrap (k+1))+1))+1))+1))+1))).2) _ rfl).go 3 rfl (by simp) ?_
     repeat first|refine cg ?_|simp -dsimp[hne,hrow,hrow',hset,hrl,hin,w1,List.set_set,o_h1,o_h2,o_h3,o_h4]
     have sz2:SizeOf.sizeOf x.tree.branches<m:=by have h0:=hz x (by simp);obtain⟨c1,c2,c3,t1⟩:=x;cases t1;simp at h0 ⊢;omega
     refine(ih.1 x.tree.branches ((mkI x.tree.path ((PathBind.mkL x.tree.binds (IntKind.i64.wrap ((IntKind.i64.wrap ((IntKind.i64.wrap ((IntKind.i64.wrap ((IntKind.i64.wrap (k+1))+1))+1))+1))+1))).2)).2) sz2).go 4 rfl (by simp) ?_
     repeat first|refine cg ?_|simp -dsimp[hne,hrow,hrow',hset,hrl,hin,w1,List.set_set,o_h1,o_h2,o_h3,o_h4]
     have sz3:SizeOf.sizeOf x.tree.els<m:=by have h0:=hz x (by simp);obtain⟨c1,c2,c3,t1⟩:=x;cases t1;simp at h0 ⊢;omega
     refine(ih.2 x.tree.els ((Branch.mkL x.tree.branches ((mkI x.tree.path ((PathBind.mkL x.tree.binds (IntKind.i64.wrap ((IntKind.i64.wrap ((IntKind.i64.wrap ((IntKind.i64.wrap ((IntKind.i64.wrap (k+1))+1))+1))+1))+1))).2)).2)).2) sz3).go 5 rfl (by simp) ?_
     repeat first|refine cg ?_|simp -dsimp[hne,hrow,hrow',hset,hrl,hin,w1,List.set_set,o_h1,o_h2,o_h3,o_h4]
     refine Again.go ⟨[(0,.own 0 n),(1,.lit (.int .i64 ((Tree.mkL x.tree.els ((Branch.mkL x.tree.branches ((mkI x.tree.path ((PathBind.mkL x.tree.binds (IntKind.i64.wrap ((IntKind.i64.wrap ((IntKind.i64.wrap ((IntKind.i64.wrap ((IntKind.i64.wrap (k+1))+1))+1))+1))+1))).2)).2)).2)).2))),(5,.lit (.int .i64 ((i+1:Nat):Int)))],[.elems 9 (rows.set i [.lit (.int .i64 k),.lit (.int .i64 (IntKind.i64.wrap (k+1))),.lit (.int .i64 (IntKind.i64.wrap ((IntKind.i64.wrap (k+1))+1))),.lit (.int .i64 (IntKind.i64.wrap ((IntKind.i64.wrap ((IntKind.i64.wrap (k+1))+1))+1))),.lit (.int .i64 (IntKind.i64.wrap ((IntKind.i64.wrap ((IntKind.i64.wrap ((IntKind.i64.wrap (k+1))+1))+1))+1))),.lit h1,.lit h2,.lit h3,.lit h4]),.pack (List.flatten (List.map Branch.c ((D++[(⟨k,IntKind.i64.wrap (k+1),IntKind.i64.wrap ((IntKind.i64.wrap (k+1))+1),(⟨IntKind.i64.wrap ((IntKind.i64.wrap ((IntKind.i64.wrap (k+1))+1))+1),IntKind.i64.wrap ((IntKind.i64.wrap ((IntKind.i64.wrap ((IntKind.i64.wrap (k+1))+1))+1))+1),(PathBind.mkL x.tree.binds (IntKind.i64.wrap ((IntKind.i64.wrap ((IntKind.i64.wrap ((IntKind.i64.wrap ((IntKind.i64.wrap (k+1))+1))+1))+1))+1))).1,(mkI x.tree.path ((PathBind.mkL x.tree.binds (IntKind.i64.wrap ((IntKind.i64.wrap ((IntKind.i64.wrap ((IntKind.i64.wrap ((IntKind.i64.wrap (k+1))+1))+1))+1))+1))).2)).1,(Branch.mkL x.tree.branches ((mkI x.tree.path ((PathBind.mkL x.tree.binds (IntKind.i64.wrap ((IntKind.i64.wrap ((IntKind.i64.wrap ((IntKind.i64.wrap ((IntKind.i64.wrap (k+1))+1))+1))+1))+1))).2)).2)).1,(Tree.mkL x.tree.els ((Branch.mkL x.tree.branches ((mkI x.tree.path ((PathBind.mkL x.tree.binds (IntKind.i64.wrap ((IntKind.i64.wrap ((IntKind.i64.wrap ((IntKind.i64.wrap ((IntKind.i64.wrap (k+1))+1))+1))+1))+1))).2)).2)).2)).1⟩:Tree)⟩:Vl.BranchOf Tree)])++r))) (UA++([.int .i64 k,.int .i64 (IntKind.i64.wrap (k+1)),.int .i64 (IntKind.i64.wrap ((IntKind.i64.wrap (k+1))+1)),.int .i64 (IntKind.i64.wrap ((IntKind.i64.wrap ((IntKind.i64.wrap (k+1))+1))+1)),.int .i64 (IntKind.i64.wrap ((IntKind.i64.wrap ((IntKind.i64.wrap ((IntKind.i64.wrap (k+1))+1))+1))+1)),h1,h2,h3,h4]++UC))]⟩
      (by refine Gh.trans (Gh.setAt 1 [2,3,4,5] (XA:=List.flatten (List.map Branch.c D)) (old:=[.lit (.int .i64 x.ctor),.lit (.int .i64 x.n),.lit (.int .i64 x.m),.lit (.int .i64 x.tree.op),.lit (.int .i64 x.tree.clause),.lit h1,.lit h2,.lit h3,.lit h4]) (XC:=List.flatten (List.map Branch.c r)) (UA:=UA) (uo:=[.int .i64 x.ctor,.int .i64 x.n,.int .i64 x.m,.int .i64 x.tree.op,.int .i64 x.tree.clause,h1,h2,h3,h4]) (UC:=UC) (by exact rfl) (by simp) (by simp) hlA rfl (.lit (.int .i64 k) (.lit (.int .i64 (IntKind.i64.wrap (k+1))) (.lit (.int .i64 (IntKind.i64.wrap ((IntKind.i64.wrap (k+1))+1))) (.lit (.int .i64 (IntKind.i64.wrap ((IntKind.i64.wrap ((IntKind.i64.wrap (k+1))+1))+1))) (.lit (.int .i64 (IntKind.i64.wrap ((IntKind.i64.wrap ((IntKind.i64.wrap ((IntKind.i64.wrap (k+1))+1))+1))+1))) (.pk 2 (by exact rfl) (.pk 3 (by exact rfl) (.pk 4 (by exact rfl) (.pk 5 (by exact rfl) .nil))))))))) (by decide)) ?_;exact Gh.to3 (by simp) (by simp -dsimp[RW.closed H])) ?_
     have he:Branch.mkL (x::r) k=((⟨k,IntKind.i64.wrap (k+1),IntKind.i64.wrap ((IntKind.i64.wrap (k+1))+1),(⟨IntKind.i64.wrap ((IntKind.i64.wrap ((IntKind.i64.wrap (k+1))+1))+1),IntKind.i64.wrap ((IntKind.i64.wrap ((IntKind.i64.wrap ((IntKind.i64.wrap (k+1))+1))+1))+1),(PathBind.mkL x.tree.binds (IntKind.i64.wrap ((IntKind.i64.wrap ((IntKind.i64.wrap ((IntKind.i64.wrap ((IntKind.i64.wrap (k+1))+1))+1))+1))+1))).1,(mkI x.tree.path ((PathBind.mkL x.tree.binds (IntKind.i64.wrap ((IntKind.i64.wrap ((IntKind.i64.wrap ((IntKind.i64.wrap ((IntKind.i64.wrap (k+1))+1))+1))+1))+1))).2)).1,(Branch.mkL x.tree.branches ((mkI x.tree.path ((PathBind.mkL x.tree.binds (IntKind.i64.wrap ((IntKind.i64.wrap ((IntKind.i64.wrap ((IntKind.i64.wrap ((IntKind.i64.wrap (k+1))+1))+1))+1))+1))).2)).2)).1,(Tree.mkL x.tree.els ((Branch.mkL x.tree.branches ((mkI x.tree.path ((PathBind.mkL x.tree.binds (IntKind.i64.wrap ((IntKind.i64.wrap ((IntKind.i64.wrap ((IntKind.i64.wrap ((IntKind.i64.wrap (k+1))+1))+1))+1))+1))).2)).2)).2)).1⟩:Tree)⟩:Vl.BranchOf Tree)::(Branch.mkL r ((Tree.mkL x.tree.els ((Branch.mkL x.tree.branches ((mkI x.tree.path ((PathBind.mkL x.tree.binds (IntKind.i64.wrap ((IntKind.i64.wrap ((IntKind.i64.wrap ((IntKind.i64.wrap ((IntKind.i64.wrap (k+1))+1))+1))+1))+1))).2)).2)).2)).2)).1,(Branch.mkL r ((Tree.mkL x.tree.els ((Branch.mkL x.tree.branches ((mkI x.tree.path ((PathBind.mkL x.tree.binds (IntKind.i64.wrap ((IntKind.i64.wrap ((IntKind.i64.wrap ((IntKind.i64.wrap ((IntKind.i64.wrap (k+1))+1))+1))+1))+1))).2)).2)).2)).2)).2):=by(first|rfl|(cases x;all_goals(try(rename_i t0;cases t0));simp[Branch.mkL,Branch.mkE,Tree.mkE]))
     rw[he]at hq
     refine ihr (D++[(⟨k,IntKind.i64.wrap (k+1),IntKind.i64.wrap ((IntKind.i64.wrap (k+1))+1),(⟨IntKind.i64.wrap ((IntKind.i64.wrap ((IntKind.i64.wrap (k+1))+1))+1),IntKind.i64.wrap ((IntKind.i64.wrap ((IntKind.i64.wrap ((IntKind.i64.wrap (k+1))+1))+1))+1),(PathBind.mkL x.tree.binds (IntKind.i64.wrap ((IntKind.i64.wrap ((IntKind.i64.wrap ((IntKind.i64.wrap ((IntKind.i64.wrap (k+1))+1))+1))+1))+1))).1,(mkI x.tree.path ((PathBind.mkL x.tree.binds (IntKind.i64.wrap ((IntKind.i64.wrap ((IntKind.i64.wrap ((IntKind.i64.wrap ((IntKind.i64.wrap (k+1))+1))+1))+1))+1))).2)).1,(Branch.mkL x.tree.branches ((mkI x.tree.path ((PathBind.mkL x.tree.binds (IntKind.i64.wrap ((IntKind.i64.wrap ((IntKind.i64.wrap ((IntKind.i64.wrap ((IntKind.i64.wrap (k+1))+1))+1))+1))+1))).2)).2)).1,(Tree.mkL x.tree.els ((Branch.mkL x.tree.branches ((mkI x.tree.path ((PathBind.mkL x.tree.binds (IntKind.i64.wrap ((IntKind.i64.wrap ((IntKind.i64.wrap ((IntKind.i64.wrap ((IntKind.i64.wrap (k+1))+1))+1))+1))+1))).2)).2)).2)).1⟩:Tree)⟩:Vl.BranchOf Tree)]) _ (i+1) n _ _ (fun y hy=>hz y (List.mem_cons_of_mem _ hy)) (by simp[hi]) (by simp at hn;omega) (by simpa using H.setAt hin hUA rfl [.int .i64 k,.int .i64 (IntKind.i64.wrap (k+1)),.int .i64 (IntKind.i64.wrap ((IntKind.i64.wrap (k+1))+1)),.int .i64 (IntKind.i64.wrap ((IntKind.i64.wrap ((IntKind.i64.wrap (k+1))+1))+1)),.int .i64 (IntKind.i64.wrap ((IntKind.i64.wrap ((IntKind.i64.wrap ((IntKind.i64.wrap (k+1))+1))+1))+1)),h1,h2,h3,h4] rfl) _ rfl _ fun R U hR=> ?_
     simpa using hq R U hR
   refine MCall.enter 9 Try.func34 (by kernel_rfl) rfl Try.ntmps34 (by simp) (by simp[Branch.mkL_len]) (fun e he=>by obtain⟨x,_,rfl⟩:=List.mem_map.1 he;exact Branch.c_len x) ?_ ?_
   ·intro he
    have he:a0=[]:=by simpa using he
    subst he
    repeat first|refine cg ?_|simp -dsimp
    refine ALoop.goU ⟨[(0,.arr []),(1,.lit (.int .i64 k0)),(5,.lit (.int .i64 0))],[]⟩ (Gh.to3 (by simp) (by simp -dsimp)) ?_
    refine ALoopU.enter ?_
    repeat first|refine cg ?_|simp -dsimp
    refine Leave.go _ (Gh.refl _) ?_
    repeat first|refine cg ?_|simp -dsimp
    all_goals(try simp[Branch.mkL])
   ·intro hne rows us e1 e2 e3 e4
    have H:RW 9 a0.length rows us:=⟨by simpa using e2,e3,e1⟩
    repeat first|refine cg ?_|simp -dsimp
    refine ALoop.goU ⟨[(0,.own 0 a0.length),(1,.lit (.int .i64 k0)),(5,.lit (.int .i64 ((0:Nat):Int)))],[.elems 9 rows,.pack (List.flatten (List.map Branch.c ([]++a0))) us]⟩ (Gh.to3 (by simp) (by simp -dsimp[RW.closed H])) ?_
    refine loop a0 [] k0 0 a0.length rows us hz0 rfl (by simp) H _ rfl _ ?_
    intro R U hR
    repeat first|refine cg ?_|simp -dsimp
    exact⟨rfl,R,U,rfl,⟨1,by simp⟩,hR.2.2,by rw[hR.1];simp[Branch.mkL_len],fun x hx=>by obtain⟨y,_,rfl⟩:=List.mem_map.1 hx;exact Branch.c_len y⟩
  ·intro a0 k0 hm
   have hz0:∀x,x∈a0→SizeOf.sizeOf x<m:=fun x hx=>by have:=List.sizeOf_lt_of_mem hx;omega
   have loop:∀(rest D:List Tree) (k:Int) (i n:Nat) (rows:List (List AV)) (us:List Go.Value),(∀x,x∈rest→SizeOf.sizeOf x<m)→i=D.length→n=i+rest.length→RW 6 n rows us→
     ∀(c:Code),ZAC [1,0,1,0,0] (ZL Try.f35)=some c→∀(Q:Exit→ASt→Prop),
     (∀(R:List (List AV)) (U:List Go.Value),RW 6 n R U→Q (.exit 0) ⟨[(1,.lit (.int .i64 (Tree.mkL rest k).2))],[.elems 6 R,.pack (List.flatten (List.map Tree.c (D++(Tree.mkL rest k).1))) U]⟩)→
     ALoopU Try.prog B 2 55 (hold c .mk) ⟨[(0,.own 0 n),(1,.lit (.int .i64 k)),(5,.lit (.int .i64 (i:Int)))],[.elems 6 rows,.pack (List.flatten (List.map Tree.c (D++rest))) us]⟩ (hold Q .mk):=by
    intro rest
    induction rest with
    |nil=>
     intro D k i n rows us hz hi hn H c hc Q hq
     obtain rfl:c=_:=ZS hc rfl
     have hn':n=i:=by simpa using hn
     subst hn'
     refine ALoopU.enter ?_
     repeat first|refine cg ?_|simp -dsimp[RW.len H]
     refine Leave.go ⟨[(1,.lit (.int .i64 k))],[.elems 6 rows,.pack (List.flatten (List.map Tree.c D)) us]⟩ (Gh.to3 (by simp) (by simp -dsimp[RW.closed H])) ?_
     simpa[Tree.mkL]using hq rows us H
    |cons x r ihr=>
     intro D k i n rows us hz hi hn H c hc Q hq
     refine ALoopU.opnAt4 1 (List.flatten (List.map Tree.c D)) (Tree.c x) (List.flatten (List.map Tree.c r)) rfl (by simp) (by simp) ?_
     intro h1 h2 h3 h4 vs UA UC o_h1 o_h2 o_h3 o_h4 hlt hU hlA
     have hv:vs=[.int .i64 x.op,.int .i64 x.clause,h1,h2,h3,h4]:=by apply ZBQ;rw[←hlt];simp
     subst hv hU
     have hUA:UA.length=i*6:=by rw[hlA,ZAK Tree.c_len,hi]
     have hin:i<n:=by simp at hn;omega
     have hrow:rows[i]? =some [.lit (.int .i64 x.op),.lit (.int .i64 x.clause),.lit h1,.lit h2,.lit h3,.lit h4]:=by simpa using H.at hin rfl hUA rfl
     have hne:¬rows=[]:=by intro e;rw[e]at hrow;simp at hrow
     have hrl:=RW.len H
     have hrow':∀(h:i<rows.length),rows[i]=[.lit (.int .i64 x.op),.lit (.int .i64 x.clause),.lit h1,.lit h2,.lit h3,.lit h4]:=fun h=>by rw[List.getElem?_eq_getElem h]at hrow;exact Option.some.inj hrow
     have hset:∀a,(rows.set i a)[i]? =some a:=fun a=>List.getElem?_set_self (by omega)
     clear hlt
     refine ALoopU.know fun hk hs=> ?_
     have d0:=hs 0 _ rfl
     simp -dsimp[Blk.bnd]at d0
     clear hk hs
     obtain rfl:c=_:=ZS hc rfl
     have w1:IntKind.i64.wrap ((i:Int)+1)=(i:Int)+1:=ZB (by omega) (by omega)
     refine ALoopU.enter ?_
     repeat first|refine cg ?_|simp -dsimp[hne,hrow,hrow',hset,hrl,hin,w1,List.set_set,o_h1,o_h2,o_h3,o_h4]
     refine(C.f95 B hB1 hB2 x.binds (IntKind.i64.wrap ((IntKind.i64.wrap (k+1))+1)) _ rfl).go 2 rfl (by simp) ?_
     repeat first|refine cg ?_|simp -dsimp[hne,hrow,hrow',hset,hrl,hin,w1,List.set_set,o_h1,o_h2,o_h3,o_h4]
     refine(C.f94 B hB1 hB2 x.path ((PathBind.mkL x.binds (IntKind.i64.wrap ((IntKind.i64.wrap (k+1))+1))).2) _ rfl).go 3 rfl (by simp) ?_
     repeat first|refine cg ?_|simp -dsimp[hne,hrow,hrow',hset,hrl,hin,w1,List.set_set,o_h1,o_h2,o_h3,o_h4]
     have sz2:SizeOf.sizeOf x.branches<m:=by have h0:=hz x (by simp);cases x;simp at h0 ⊢;omega
     refine(ih.1 x.branches ((mkI x.path ((PathBind.mkL x.binds (IntKind.i64.wrap ((IntKind.i64.wrap (k+1))+1))).2)).2) sz2).go 4 rfl (by simp) ?_
     repeat first|refine cg ?_|simp -dsimp[hne,hrow,hrow',hset,hrl,hin,w1,List.set_set,o_h1,o_h2,o_h3,o_h4]
     have sz3:SizeOf.sizeOf x.els<m:=by have h0:=hz x (by simp);cases x;simp at h0 ⊢;omega
     refine(ih.2 x.els ((Branch.mkL x.branches ((mkI x.path ((PathBind.mkL x.binds (IntKind.i64.wrap ((IntKind.i64.wrap (k+1))+1))).2)).2)).2) sz3).go 5 rfl (by simp) ?_
     repeat first|refine cg ?_|simp -dsimp[hne,hrow,hrow',hset,hrl,hin,w1,List.set_set,o_h1,o_h2,o_h3,o_h4]
     refine Again.go ⟨[(0,.own 0 n),(1,.lit (.int .i64 ((Tree.mkL x.els ((Branch.mkL x.branches ((mkI x.path ((PathBind.mkL x.binds (IntKind.i64.wrap ((IntKind.i64.wrap (k+1))+1))).2)).2)).2)).2))),(5,.lit (.int .i64 ((i+1:Nat):Int)))],[.elems 6 (rows.set i [.lit (.int .i64 k),.lit (.int .i64 (IntKind.i64.wrap (k+1))),.lit h1,.lit h2,.lit h3,.lit h4]),.pack (List.flatten (List.map Tree.c ((D++[(⟨k,IntKind.i64.wrap (k+1),(PathBind.mkL x.binds (IntKind.i64.wrap ((IntKind.i64.wrap (k+1))+1))).1,(mkI x.path ((PathBind.mkL x.binds (IntKind.i64.wrap ((IntKind.i64.wrap (k+1))+1))).2)).1,(Branch.mkL x.branches ((mkI x.path ((PathBind.mkL x.binds (IntKind.i64.wrap ((IntKind.i64.wrap (k+1))+1))).2)).2)).1,(Tree.mkL x.els ((Branch.mkL x.branches ((mkI x.path ((PathBind.mkL x.binds (IntKind.i64.wrap ((IntKind.i64.wrap (k+1))+1))).2)).2)).2)).1⟩:Tree)])++r))) (UA++([.int .i64 k,.int .i64 (IntKind.i64.wrap (k+1)),h1,h2,h3,h4]++UC))]⟩
      (by refine Gh.trans (Gh.setAt 1 [2,3,4,5] (XA:=List.flatten (List.map Tree.c D)) (old:=[.lit (.int .i64 x.op),.lit (.int .i64 x.clause),.lit h1,.lit h2,.lit h3,.lit h4]) (XC:=List.flatten (List.map Tree.c r)) (UA:=UA) (uo:=[.int .i64 x.op,.int .i64 x.clause,h1,h2,h3,h4]) (UC:=UC) (by exact rfl) (by simp) (by simp) hlA rfl (.lit (.int .i64 k) (.lit (.int .i64 (IntKind.i64.wrap (k+1))) (.pk 2 (by exact rfl) (.pk 3 (by exact rfl) (.pk 4 (by exact rfl) (.pk 5 (by exact rfl) .nil)))))) (by decide)) ?_;exact Gh.to3 (by simp) (by simp -dsimp[RW.closed H])) ?_
     have he:Tree.mkL (x::r) k=((⟨k,IntKind.i64.wrap (k+1),(PathBind.mkL x.binds (IntKind.i64.wrap ((IntKind.i64.wrap (k+1))+1))).1,(mkI x.path ((PathBind.mkL x.binds (IntKind.i64.wrap ((IntKind.i64.wrap (k+1))+1))).2)).1,(Branch.mkL x.branches ((mkI x.path ((PathBind.mkL x.binds (IntKind.i64.wrap ((IntKind.i64.wrap (k+1))+1))).2)).2)).1,(Tree.mkL x.els ((Branch.mkL x.branches ((mkI x.path ((PathBind.mkL x.binds (IntKind.i64.wrap ((IntKind.i64.wrap (k+1))+1))).2)).2)).2)).1⟩:Tree)::(Tree.mkL r ((Tree.mkL x.els ((Branch.mkL x.branches ((mkI x.path ((PathBind.mkL x.binds (IntKind.i64.wrap ((IntKind.i64.wrap (k+1))+1))).2)).2)).2)).2)).1,(Tree.mkL r ((Tree.mkL x.els ((Branch.mkL x.branches ((mkI x.path ((PathBind.mkL x.binds (IntKind.i64.wrap ((IntKind.i64.wrap (k+1))+1))).2)).2)).2)).2)).2):=by(first|rfl|(cases x;simp[Tree.mkL,Tree.mkE]))
     rw[he]at hq
     refine ihr (D++[(⟨k,IntKind.i64.wrap (k+1),(PathBind.mkL x.binds (IntKind.i64.wrap ((IntKind.i64.wrap (k+1))+1))).1,(mkI x.path ((PathBind.mkL x.binds (IntKind.i64.wrap ((IntKind.i64.wrap (k+1))+1))).2)).1,(Branch.mkL x.branches ((mkI x.path ((PathBind.mkL x.binds (IntKind.i64.wrap ((IntKind.i64.wrap (k+1))+1))).2)).2)).1,(Tree.mkL x.els ((Branch.mkL x.branches ((mkI x.path ((PathBind.mkL x.binds (IntKind.i64.wrap ((IntKind.i64.wrap (k+1))+1))).2)).2)).2)).1⟩:Tree)]) _ (i+1) n _ _ (fun y hy=>hz y (List.mem_cons_of_mem _ hy)) (by simp[hi]) (by simp at hn;omega) (by simpa using H.setAt hin hUA rfl [.int .i64 k,.int .i64 (IntKind.i64.wrap (k+1)),h1,h2,h3,h4] rfl) _ rfl _ fun R U hR=> ?_
     simpa using hq R U hR
   refine MCall.enter 6 Try.func35 (by kernel_rfl) rfl Try.ntmps35 (by simp) (by simp[Tree.mkL_len]) (fun e he=>by obtain⟨x,_,rfl⟩:=List.mem_map.1 he;exact Tree.c_len x) ?_ ?_
   ·intro he
    have he:a0=[]:=by simpa using he
    subst he
    repeat first|refine cg ?_|simp -dsimp
    refine ALoop.goU ⟨[(0,.arr []),(1,.lit (.int .i64 k0)),(5,.lit (.int .i64 0))],[]⟩ (Gh.to3 (by simp) (by simp -dsimp)) ?_
    refine ALoopU.enter ?_
    repeat first|refine cg ?_|simp -dsimp
    refine Leave.go _ (Gh.refl _) ?_
    repeat first|refine cg ?_|simp -dsimp
    all_goals(try simp[Tree.mkL])
   ·intro hne rows us e1 e2 e3 e4
    have H:RW 6 a0.length rows us:=⟨by simpa using e2,e3,e1⟩
    repeat first|refine cg ?_|simp -dsimp
    refine ALoop.goU ⟨[(0,.own 0 a0.length),(1,.lit (.int .i64 k0)),(5,.lit (.int .i64 ((0:Nat):Int)))],[.elems 6 rows,.pack (List.flatten (List.map Tree.c ([]++a0))) us]⟩ (Gh.to3 (by simp) (by simp -dsimp[RW.closed H])) ?_
    refine loop a0 [] k0 0 a0.length rows us hz0 rfl (by simp) H _ rfl _ ?_
    intro R U hR
    repeat first|refine cg ?_|simp -dsimp
    exact⟨rfl,R,U,rfl,⟨1,by simp⟩,hR.2.2,by rw[hR.1];simp[Tree.mkL_len],fun x hx=>by obtain⟨y,_,rfl⟩:=List.mem_map.1 hx;exact Tree.c_len y⟩
theorem C.f98 (a:List Branch)(k:Int)(v:List Branch×Int)(hF:F.f98 a k=some v):MCall Try.prog B 34 (List.map Branch.c a) [.int .i64 k] (List.map Branch.c v.1) (.int .i64 v.2):=by
 obtain rfl:=Option.some.inj hF
 exact(CM.laws_markBranchS B hB1 hB2 (SizeOf.sizeOf a+1)).1 a k (Nat.lt_succ_self _)
theorem C.f99 (a:List Tree)(k:Int)(v:List Tree×Int)(hF:F.f99 a k=some v):MCall Try.prog B 35 (List.map Tree.c a) [.int .i64 k] (List.map Tree.c v.1) (.int .i64 v.2):=by
 obtain rfl:=Option.some.inj hF
 exact(CM.laws_markBranchS B hB1 hB2 (SizeOf.sizeOf a+1)).2 a k (Nat.lt_succ_self _)
theorem C.f100 (aX:Tree)(r:Bool)(hF:F.f100 aX=some r):PureCall Try.prog B 3 [.agg [li aX.op,li aX.clause,am PathBind.c aX.binds,am cI aX.path,am Branch.c aX.branches,am Tree.c aX.els]] (.lit (.bool r)):=by
 unfold F.f100 at hF
 refine PureCall.enterLe Try.func3 (by kernel_rfl) rfl Try.ntmps3 (by simp) (by simp) ?_
 repeat first|refine cg ?_|simp -dsimp
 have hF:=ob hF;obtain⟨v,e1,hF⟩:=hF
 refine(((CC.f4 B hB1 hB2).2.1 aX 1048576 v e1)).goW (by simp) (by simp) ?_
 repeat first|refine cg ?_|simp -dsimp
 revert hF;refine abr.sp ?_ ?_<;>intro h2 q3 hF
 ·cases hF
  repeat first|refine cg ?_|simp -dsimp[h2]
  all_goals(try first|omega|rfl)
 ·repeat first|refine cg ?_|simp -dsimp[h2,q3]
  have hF:=ob hF;obtain⟨v4,e5,hF⟩:=hF
  refine(((CC.f15 B hB1 hB2).2.1 aX v4 e5)).goW (by first|simp[h2,q3];done|simp_all) (by simp) ?_
  repeat first|refine cg ?_|simp -dsimp[h2,q3]
  have hF:=ob hF;obtain⟨v6,e7,hF⟩:=hF
  refine((C.f39 B hB1 hB2 v4 v6 e7)).goW (by first|simp[h2,q3];done|simp_all) (by simp) ?_
  repeat first|refine cg ?_|simp -dsimp[h2,q3]
  have hF:=ob hF;obtain⟨v8,e9,hF⟩:=hF
  refine(((CC.laws_toBranch__f B hB1 hB2).2.1 aX v8 e9)).go4 (by first|simp -dsimp[h2,q3];done|simp_all) (by simp) (fun h h10 h11 h12 o_h o_h10 o_h11 o_h12=> ?_)
  repeat first|refine cg ?_|simp -dsimp[h2,q3,o_h,o_h10,o_h11,o_h12]
  have hF:=ob hF;obtain⟨v13,e14,hF⟩:=hF
  refine((C.impl_ShareTree__f B hB1 hB2 v8 v13 e14)).go1 (by first|simp -dsimp[h2,q3,o_h,o_h10,o_h11,o_h12];done|simp_all) (by simp) (fun h15 o_h15=> ?_)
  repeat first|refine cg ?_|simp -dsimp[h2,q3,o_h,o_h10,o_h11,o_h12,o_h15]
  have hF:=ob hF;obtain⟨v16,e17,hF⟩:=hF
  refine((C.f79 B hB1 hB2 v13.1 v6.1 v16 e17)).lend (by first|simp -dsimp[h2,q3,o_h,o_h10,o_h11,o_h12,o_h15];done|simp_all) (by simp -dsimp) ?_
  repeat first|refine cg ?_|simp -dsimp[h2,q3,o_h,o_h10,o_h11,o_h12,o_h15]
  revert hF;refine abr.sp (fun h18 q19 hF=> ?_) (fun h18 q19 hF=> ?_)
  ·repeat first|refine cg ?_|simp -dsimp[h2,q3,o_h,o_h10,o_h11,o_h12,o_h15,h18]
   revert hF;refine abr.ns ?_ ?_<;>intro h20 q21 hF
   ·cases hF
    repeat first|refine cg ?_|simp -dsimp[h2,q3,o_h,o_h10,o_h11,o_h12,o_h15,h18,h20,q21]
    all_goals(try first|omega|rfl)
   ·repeat first|refine cg ?_|simp -dsimp[h2,q3,o_h,o_h10,o_h11,o_h12,o_h15,h18,h20,q21]
    refine ADraw.eff [9] [(0,0),(0,0),(0,1),(0,1),(1,1)] [1,1,1,1,1] follows (by kernel_rfl) (by kernel_rfl) (by kernel_rfl) ?_
    repeat first|refine cg ?_|simp -dsimp[h2,q3,o_h,o_h10,o_h11,o_h12,o_h15,h18,h20,q21]
    have hF:=ob hF;obtain⟨v22,e23,hF⟩:=hF
    refine(((CC.f15 B hB1 hB2).2.1 aX v22 e23)).pgoW (by first|simp[h2,q3,o_h,o_h10,o_h11,o_h12,o_h15,h18,h20,q21];done|simp_all) (by simp) ?_
    repeat first|refine cg ?_|simp -dsimp[h2,q3,o_h,o_h10,o_h11,o_h12,o_h15,h18,h20,q21]
    have hF:=ob hF;obtain⟨v24,e25,hF⟩:=hF
    refine(((CC.f80 B hB1 hB2).2.1 v8 v22 v24 e25)).elend (by first|simp -dsimp[h2,q3,o_h,o_h10,o_h11,o_h12,o_h15,h18,h20,q21];done|simp_all) (by simp -dsimp) ?_
    repeat first|refine cg ?_|simp -dsimp[h2,q3,o_h,o_h10,o_h11,o_h12,o_h15,h18,h20,q21]
    revert hF;refine abr.ns (fun h26 q27 hF=> ?_) (fun h26 q27 hF=> ?_)
    ·cases hF
     repeat first|refine cg ?_|simp -dsimp[h2,q3,o_h,o_h10,o_h11,o_h12,o_h15,h18,h20,q21,h26,q27]
     all_goals(try first|omega|rfl)
    ·repeat first|refine cg ?_|simp -dsimp[h2,q3,o_h,o_h10,o_h11,o_h12,o_h15,h18,h20,q21,h26,q27]
     refine ACall.inl Try.func10 (by kernel_rfl) rfl Try.ntmps10 (by simp) ?_
     repeat first|refine cg ?_|simp -dsimp[h2,q3,o_h,o_h10,o_h11,o_h12,o_h15,h18,h20,q21,h26,q27]
     have hF:=ob hF;obtain⟨v28,e29,hF⟩:=hF
     refine((C.f95 B hB1 hB2 v8.binds 1 v28 e29)).go 1 rfl (by simp) ?_
     repeat first|refine cg ?_|simp -dsimp[h2,q3,o_h,o_h10,o_h11,o_h12,o_h15,h18,h20,q21,h26,q27]
     have hF:=ob hF;obtain⟨v30,e31,hF⟩:=hF
     refine((C.f94 B hB1 hB2 v8.path v28.2 v30 e31)).go 2 rfl (by simp) ?_
     repeat first|refine cg ?_|simp -dsimp[h2,q3,o_h,o_h10,o_h11,o_h12,o_h15,h18,h20,q21,h26,q27]
     have hF:=ob hF;obtain⟨v32,e33,hF⟩:=hF
     refine((C.f98 B hB1 hB2 v8.branches v30.2 v32 e33)).go 3 rfl (by simp) ?_
     repeat first|refine cg ?_|simp -dsimp[h2,q3,o_h,o_h10,o_h11,o_h12,o_h15,h18,h20,q21,h26,q27]
     have hF:=ob hF;obtain⟨v34,e35,hF⟩:=hF
     refine((C.f99 B hB1 hB2 v8.els v32.2 v34 e35)).go 4 rfl (by simp) ?_
     repeat first|refine cg ?_|simp -dsimp[h2,q3,o_h,o_h10,o_h11,o_h12,o_h15,h18,h20,q21,h26,q27]
     revert hF;refine abr.ns ?_ ?_<;>intro h36 q37 hF
     ·repeat first|refine cg ?_|simp -dsimp[h2,q3,o_h,o_h10,o_h11,o_h12,o_h15,h18,h20,q21,h26,q27,h36,q37]
      have hF:=ob hF;obtain⟨v38,e39,hF⟩:=hF
      refine((C.f79 B hB1 hB2 v13.1 v6.1 v38 e39)).lend (by first|simp -dsimp[h2,q3,o_h,o_h10,o_h11,o_h12,o_h15,h18,h20,q21,h26,q27,h36,q37];done|simp_all) (by simp -dsimp) ?_
      repeat first|refine cg ?_|simp -dsimp[h2,q3,o_h,o_h10,o_h11,o_h12,o_h15,h18,h20,q21,h26,q27,h36,q37]
      revert hF;refine abr.sp (fun h40 q41 hF=> ?_) (fun h40 q41 hF=> ?_)
      ·repeat first|refine cg ?_|simp -dsimp[h2,q3,o_h,o_h10,o_h11,o_h12,o_h15,h18,h20,q21,h26,q27,h36,q37,h40]
       have hF:=ob hF;obtain⟨v42,e43,hF⟩:=hF
       refine((C.f97 B hB1 hB2 v13.1 1 v42 e43)).go 6 rfl (by simp) ?_
       repeat first|refine cg ?_|simp -dsimp[h2,q3,o_h,o_h10,o_h11,o_h12,o_h15,h18,h20,q21,h26,q27,h36,q37,h40]
       have hF:=ob hF;obtain⟨v44,e45,hF⟩:=hF
       refine((C.f93 B hB1 hB2 v42.1 1 v44 e45)).lend (by first|simp -dsimp[h2,q3,o_h,o_h10,o_h11,o_h12,o_h15,h18,h20,q21,h26,q27,h36,q37,h40];done|simp_all) (by simp -dsimp) ?_
       repeat first|refine cg ?_|simp -dsimp[h2,q3,o_h,o_h10,o_h11,o_h12,o_h15,h18,h20,q21,h26,q27,h36,q37,h40]
       revert hF;refine abr.sp ?_ ?_<;>intro h46 q47 hF
       ·cases hF
        repeat first|refine cg ?_|simp -dsimp[h2,q3,o_h,o_h10,o_h11,o_h12,o_h15,h18,h20,q21,h26,q27,h36,q37,h40,h46]
        all_goals(try first|omega|rfl)
       ·repeat first|refine cg ?_|simp -dsimp[h2,q3,o_h,o_h10,o_h11,o_h12,o_h15,h18,h20,q21,h26,q27,h36,q37,h40,h46,q47]
        revert hF;refine abr.ns ?_ ?_<;>intro h48 q49 hF
        ·cases hF
         repeat first|refine cg ?_|simp -dsimp[h2,q3,o_h,o_h10,o_h11,o_h12,o_h15,h18,h20,q21,h26,q27,h36,q37,h40,h46,q47,h48,q49]
         all_goals(try first|omega|rfl)
        ·repeat first|refine cg ?_|simp -dsimp[h2,q3,o_h,o_h10,o_h11,o_h12,o_h15,h18,h20,q21,h26,q27,h36,q37,h40,h46,q47,h48,q49]
         have hF:=ob hF;obtain⟨v50,e51,hF⟩:=hF
         refine(((CC.f15 B hB1 hB2).2.1 aX v50 e51)).goW (by first|simp[h2,q3,o_h,o_h10,o_h11,o_h12,o_h15,h18,h20,q21,h26,q27,h36,q37,h40,h46,q47,h48,q49];done|simp_all) (by simp) ?_
         repeat first|refine cg ?_|simp -dsimp[h2,q3,o_h,o_h10,o_h11,o_h12,o_h15,h18,h20,q21,h26,q27,h36,q37,h40,h46,q47,h48,q49]
         have hF:=ob hF;obtain⟨v52,e53,hF⟩:=hF
         refine((C.impl_ShareTree__f B hB1 hB2 v50 v52 e53)).go1 (by first|simp -dsimp[h2,q3,o_h,o_h10,o_h11,o_h12,o_h15,h18,h20,q21,h26,q27,h36,q37,h40,h46,q47,h48,q49];done|simp_all) (by simp) (fun h54 o_h54=> ?_)
         repeat first|refine cg ?_|simp -dsimp[h2,q3,o_h,o_h10,o_h11,o_h12,o_h15,h18,h20,q21,h26,q27,h36,q37,h40,h46,q47,h48,q49,o_h54]
         have hF:=ob hF;obtain⟨v55,e56,hF⟩:=hF
         refine((C.f79 B hB1 hB2 v52.1 v6.1 v55 e56)).lend (by first|simp -dsimp[h2,q3,o_h,o_h10,o_h11,o_h12,o_h15,h18,h20,q21,h26,q27,h36,q37,h40,h46,q47,h48,q49,o_h54];done|simp_all) (by simp -dsimp) ?_
         repeat first|refine cg ?_|simp -dsimp[h2,q3,o_h,o_h10,o_h11,o_h12,o_h15,h18,h20,q21,h26,q27,h36,q37,h40,h46,q47,h48,q49,o_h54]
         revert hF;refine abr.sp (fun h57 q58 hF=> ?_) (fun h57 q58 hF=> ?_)
         ·repeat first|refine cg ?_|simp -dsimp[h2,q3,o_h,o_h10,o_h11,o_h12,o_h15,h18,h20,q21,h26,q27,h36,q37,h40,h46,q47,h48,q49,o_h54,h57]
          revert hF;refine abr.ns ?_ ?_<;>intro h59 q60 hF
          ·cases hF
           repeat first|refine cg ?_|simp -dsimp[h2,q3,o_h,o_h10,o_h11,o_h12,o_h15,h18,h20,q21,h26,q27,h36,q37,h40,h46,q47,h48,q49,o_h54,h57,h59,q60]
           all_goals(try first|omega|rfl)
          ·repeat first|refine cg ?_|simp -dsimp[h2,q3,o_h,o_h10,o_h11,o_h12,o_h15,h18,h20,q21,h26,q27,h36,q37,h40,h46,q47,h48,q49,o_h54,h57,h59,q60]
           have hF:=ob hF;obtain⟨v61,e62,hF⟩:=hF
           refine((C.f93 B hB1 hB2 v42.1 1 v61 e62)).lend (by first|simp -dsimp[h2,q3,o_h,o_h10,o_h11,o_h12,o_h15,h18,h20,q21,h26,q27,h36,q37,h40,h46,q47,h48,q49,o_h54,h57,h59,q60];done|simp_all) (by simp -dsimp) ?_
           repeat first|refine cg ?_|simp -dsimp[h2,q3,o_h,o_h10,o_h11,o_h12,o_h15,h18,h20,q21,h26,q27,h36,q37,h40,h46,q47,h48,q49,o_h54,h57,h59,q60]
           revert hF;refine abr.sp ?_ ?_<;>intro h63 q64 hF
           ·cases hF
            repeat first|refine cg ?_|simp -dsimp[h2,q3,o_h,o_h10,o_h11,o_h12,o_h15,h18,h20,q21,h26,q27,h36,q37,h40,h46,q47,h48,q49,o_h54,h57,h59,q60,h63]
            all_goals(try first|omega|rfl)
           ·repeat first|refine cg ?_|simp -dsimp[h2,q3,o_h,o_h10,o_h11,o_h12,o_h15,h18,h20,q21,h26,q27,h36,q37,h40,h46,q47,h48,q49,o_h54,h57,h59,q60,h63,q64]
            revert hF;refine abr.ns ?_ ?_<;>intro h65 q66 hF
            ·cases hF
             repeat first|refine cg ?_|simp -dsimp[h2,q3,o_h,o_h10,o_h11,o_h12,o_h15,h18,h20,q21,h26,q27,h36,q37,h40,h46,q47,h48,q49,o_h54,h57,h59,q60,h63,q64,h65,q66]
             all_goals(try first|omega|rfl)
            ·cases hF
             repeat first|refine cg ?_|simp -dsimp[h2,q3,o_h,o_h10,o_h11,o_h12,o_h15,h18,h20,q21,h26,q27,h36,q37,h40,h46,q47,h48,q49,o_h54,h57,h59,q60,h63,q64,h65,q66]
             all_goals(try first|omega|rfl)
         ·cases hF
          repeat first|refine cg ?_|simp -dsimp[h2,q3,o_h,o_h10,o_h11,o_h12,o_h15,h18,h20,q21,h26,q27,h36,q37,h40,h46,q47,h48,q49,o_h54,h57,q58]
          all_goals(try first|omega|rfl)
      ·cases hF
       repeat first|refine cg ?_|simp -dsimp[h2,q3,o_h,o_h10,o_h11,o_h12,o_h15,h18,h20,q21,h26,q27,h36,q37,h40,q41]
       all_goals(try first|omega|rfl)
     ·cases hF
      repeat first|refine cg ?_|simp -dsimp[h2,q3,o_h,o_h10,o_h11,o_h12,o_h15,h18,h20,q21,h26,q27,h36,q37]
      all_goals(try first|omega|rfl)
  ·cases hF
   repeat first|refine cg ?_|simp -dsimp[h2,q3,o_h,o_h10,o_h11,o_h12,o_h15,h18,q19]
   all_goals(try first|omega|rfl)
end Go.Proofs.Ytbibfeagkocjlaa
