/- A part of the proof. -/
import Derived.Test.YtodkbabdaoeooaaDoorProg
import Derived.Test.YtodkbabdaoeooaaDoorFormatStepsF
import Derived.Test.YtodkbabdaoeooaaDoorVlBld
import Derived.Test.YtodkbabdaoeooaaDoorShelf
namespace Go.Proofs.YtodkbabdaoeooaaDoor
open Go Go.Proofs Go.Vl
open abr renaming sp->aS,ns->aN
open Leave renaming go->lG
open Again renaming go->aG
open ALoopU renaming know->kN,enter->eN
open Gh renaming to3->gT,refl->gR
open PureCall renaming enterLe->pE
open Go.IntKind (i64)
set_option linter.all false
set_option maxRecDepth 100000
set_option maxHeartbeats 4000000
set_option synthInstance.maxSize 100000
set_option synthInstance.maxHeartbeats 4000000
attribute [local irreducible] ECallA NCallA aL aLg AMake MLoop AgainM LeaveM ZBq ZBG MutCall BCall chk abr ACall ALoop ALoopU ADraw Again Leave ZFC PCall ZCf awp ZI1 PureCall hold
abbrev li (x:Int):AV:=.lit (.int .i64 x)
abbrev am {α:Type}(f:α->List AV)(l:List α):AV:=.arr (List.map f l)
theorem follows :Tryd.prog.follows .mixedOrders=true:=by kernel_rfl
@[simp] theorem ti2 :Zq Tryd.prog 2=some ⟨.word,1,[.int .i64 0]⟩:=by kernel_rfl
@[simp] theorem ti3 :Zq Tryd.prog 3=some ⟨.word,1,[.int .i64 0]⟩:=by kernel_rfl
@[simp] theorem ti4 :Zq Tryd.prog 4=some ⟨.word,1,[.bool false]⟩:=by kernel_rfl
@[simp] theorem ti5 :Zq Tryd.prog 5=some ⟨.word,1,[.int .u8 0]⟩:=by kernel_rfl
@[simp] theorem ti6 :Zq Tryd.prog 6=some ⟨.word,1,[.int .u8 0]⟩:=by kernel_rfl
@[simp] theorem ti7 :Zq Tryd.prog 7=some ⟨.struct [(0,1),(1,1),(2,1),(3,1)],4,[.int .i64 0,.int .i64 0,.bool false,.int .u8 0]⟩:=by kernel_rfl
@[simp] theorem ti8 :Zq Tryd.prog 8=some ⟨.struct [(0,1),(1,1),(2,1),(3,1)],4,[.int .i64 0,.int .i64 0,.bool false,.int .u8 0]⟩:=by kernel_rfl
@[simp] theorem ti9 :Zq Tryd.prog 9=some ⟨.word,1,[.string ByteArray.empty]⟩:=by kernel_rfl
@[simp] theorem ZTW :Zq Tryd.prog 22=some ⟨.slice 1 1 [.int .u8 0],1,[.slice none 0 0]⟩:=by kernel_rfl
@[simp] theorem ZTg :ZFf Tryd.prog 22=true:=by kernel_rfl
@[simp] theorem ZTV :Zq Tryd.prog 23=some ⟨.slice 8 96 [.int .i64 0,.slice none 0 0,.int .i64 0,.int .i64 0,.int .i64 0,.int .i64 0,.slice none 0 0,.int .i64 0],1,[.slice none 0 0]⟩:=by kernel_rfl
@[simp] theorem ZTf :ZFf Tryd.prog 23=true:=by kernel_rfl
@[simp] theorem ZTU :Zq Tryd.prog 27=some ⟨.slice 2 40 [.string ByteArray.empty,.slice none 0 0],1,[.slice none 0 0]⟩:=by kernel_rfl
@[simp] theorem ZTe :ZFf Tryd.prog 27=true:=by kernel_rfl
@[simp] theorem ZTT :Zq Tryd.prog 29=some ⟨.struct [(0,1),(1,1)],2,[.int .i64 0,.int .i64 0]⟩:=by kernel_rfl
@[simp] theorem ZTi :ZCP Tryd.prog 29=true:=by kernel_rfl
@[simp] theorem ZTS :Zq Tryd.prog 30=some ⟨.slice 9 88 [.int .i64 0,.int .i64 0,.int .i64 0,.int .i64 0,.int .i64 0,.slice none 0 0,.int .i64 0,.int .i64 0,.int .i64 0],1,[.slice none 0 0]⟩:=by kernel_rfl
@[simp] theorem ZTd :ZFf Tryd.prog 30=true:=by kernel_rfl
@[simp] theorem ZTR :Zq Tryd.prog 37=some ⟨.struct [(0,1),(1,1)],2,[.pointer none,.slice none 0 0]⟩:=by kernel_rfl
@[simp] theorem ZTQ :Zq Tryd.prog 38=some ⟨.slice 1 8 [.int .i64 0],1,[.slice none 0 0]⟩:=by kernel_rfl
@[simp] theorem ZTc :ZFf Tryd.prog 38=true:=by kernel_rfl
@[simp] theorem ZTP :Zq Tryd.prog 39=some ⟨.slice 2 32 [.int .i64 0,.slice none 0 0],1,[.slice none 0 0]⟩:=by kernel_rfl
@[simp] theorem ZTb :ZFf Tryd.prog 39=true:=by kernel_rfl
@[simp] theorem ZTO :Zq Tryd.prog 41=some ⟨.struct [(0,1),(1,1),(2,1),(3,1),(4,1),(5,1),(6,1),(7,1)],8,[.int .i64 0,.slice none 0 0,.int .i64 0,.int .i64 0,.int .i64 0,.int .i64 0,.slice none 0 0,.int .i64 0]⟩:=by kernel_rfl
@[simp] theorem ZTN :Zq Tryd.prog 49=some ⟨.struct [(0,1),(1,1)],2,[.int .i64 0,.slice none 0 0]⟩:=by kernel_rfl
@[simp] theorem ZTM :Zq Tryd.prog 53=some ⟨.slice 6 64 [.int .i64 0,.int .i64 0,.int .i64 0,.int .i64 0,.int .i64 0,.slice none 0 0],1,[.slice none 0 0]⟩:=by kernel_rfl
@[simp] theorem ZTa :ZFf Tryd.prog 53=true:=by kernel_rfl
@[simp] theorem ZTL :Zq Tryd.prog 56=some ⟨.struct [(0,1),(1,1),(2,1),(3,1),(4,1),(5,1)],6,[.int .i64 0,.int .i64 0,.int .i64 0,.int .i64 0,.int .i64 0,.slice none 0 0]⟩:=by kernel_rfl
@[simp] theorem ZTK :Zq Tryd.prog 58=some ⟨.struct [(0,1),(1,1),(2,1)],3,[.int .i64 0,.int .i64 0,.int .i64 0]⟩:=by kernel_rfl
@[simp] theorem ZTh :ZDA Tryd.prog 58=true:=by kernel_rfl
@[simp] theorem ZTJ :Zq Tryd.prog 60=some ⟨.struct [(0,6),(6,3)],9,[.int .i64 0,.int .i64 0,.int .i64 0,.int .i64 0,.int .i64 0,.slice none 0 0,.int .i64 0,.int .i64 0,.int .i64 0]⟩:=by kernel_rfl
@[simp] theorem ZTI :Zq Tryd.prog 68=some ⟨.slice 1 24 [.slice none 0 0],1,[.slice none 0 0]⟩:=by kernel_rfl
@[simp] theorem ZTZ :ZFf Tryd.prog 68=true:=by kernel_rfl
@[simp] theorem ZTH :Zq Tryd.prog 77=some ⟨.struct [(0,1),(1,1)],2,[.slice none 0 0,.int .i64 0]⟩:=by kernel_rfl
@[simp] theorem ZTG :Zq Tryd.prog 78=some ⟨.slice 3 40 [.int .i64 0,.int .i64 0,.slice none 0 0],1,[.slice none 0 0]⟩:=by kernel_rfl
@[simp] theorem ZTY :ZFf Tryd.prog 78=true:=by kernel_rfl
@[simp] theorem ZTF :Zq Tryd.prog 80=some ⟨.struct [(0,1),(1,1),(2,1)],3,[.int .i64 0,.int .i64 0,.slice none 0 0]⟩:=by kernel_rfl
@[simp] theorem ZTE :Zq Tryd.prog 88=some ⟨.slice 3 24 [.int .i64 0,.int .i64 0,.int .i64 0],1,[.slice none 0 0]⟩:=by kernel_rfl
@[simp] theorem ZTX :ZFf Tryd.prog 88=true:=by kernel_rfl
@[simp] theorem ZSs :Zq Tryd.prog 103=some ⟨.slice 3 48 [.string ByteArray.empty,.slice none 0 0,.int .i64 0],1,[.slice none 0 0]⟩:=by kernel_rfl
@[simp] theorem ZSv :ZFf Tryd.prog 103=true:=by kernel_rfl
@[simp] theorem ZSr :Zq Tryd.prog 105=some ⟨.struct [(0,1),(1,1)],2,[.string ByteArray.empty,.slice none 0 0]⟩:=by kernel_rfl
@[simp] theorem ZSq :Zq Tryd.prog 107=some ⟨.slice 2 16 [.int .i64 0,.int .i64 0],1,[.slice none 0 0]⟩:=by kernel_rfl
@[simp] theorem ZSu :ZFf Tryd.prog 107=true:=by kernel_rfl
@[simp] theorem ZSp :Zq Tryd.prog 109=some ⟨.struct [(0,1),(1,1),(2,1)],3,[.string ByteArray.empty,.slice none 0 0,.int .i64 0]⟩:=by kernel_rfl
@[simp] theorem ZSo :Zq Tryd.prog 116=some ⟨.struct [(0,1),(1,2)],3,[.int .i64 0,.int .i64 0,.int .i64 0]⟩:=by kernel_rfl
@[simp] theorem ZSy :ZDA Tryd.prog 116=true:=by kernel_rfl
@[simp] theorem ZSn :Zq Tryd.prog 134=some ⟨.slice 1 16 [.string ByteArray.empty],1,[.slice none 0 0]⟩:=by kernel_rfl
@[simp] theorem ZSt :ZFf Tryd.prog 134=true:=by kernel_rfl
attribute [simp] Tryd.underlying2 Tryd.underlying3 Tryd.underlying4 Tryd.underlying5 Tryd.underlying6 Tryd.underlying9 Tryd.underlying22 Tryd.underlying23 Tryd.underlying27 Tryd.underlying30 Tryd.underlying38 Tryd.underlying39 Tryd.underlying53 Tryd.underlying68 Tryd.underlying78 Tryd.underlying88 Tryd.underlying103 Tryd.underlying107 Tryd.underlying134 Tryd.results3 Tryd.results4 Tryd.results5 Tryd.results6 Tryd.results7 Tryd.results8 Tryd.results9 Tryd.results11 Tryd.results13 Tryd.results14 Tryd.results15 Tryd.results16 Tryd.results17 Tryd.results20 Tryd.results21 Tryd.results22 Tryd.results23 Tryd.results24 Tryd.results25 Tryd.results26 Tryd.results27 Tryd.results28 Tryd.results29 Tryd.results30 Tryd.results33 Tryd.results34 Tryd.results35 Tryd.results36 Tryd.results37 Tryd.results38 Tryd.results39 Tryd.results40 Tryd.results41 Tryd.results42 Tryd.results47 Tryd.results48 Tryd.results49 Tryd.results50 Tryd.results51 Tryd.results52 Tryd.results53 Tryd.results54 Tryd.results55 Tryd.results56 Tryd.results57 Tryd.results58 Tryd.results59 Tryd.results65 Tryd.results66 Tryd.results67 Tryd.results68 Tryd.results69 Tryd.results70 Tryd.results71 Tryd.results72 Tryd.results73 Tryd.results74 Tryd.results75 Tryd.results78 Tryd.results79 Tryd.results80 Tryd.results81 Tryd.results82 Tryd.results83 Tryd.results84 Tryd.results85 Tryd.results86 Tryd.results87 Tryd.results88 Tryd.results89 Tryd.results90 Tryd.results91 Tryd.results92 Tryd.results93 Tryd.results94 Tryd.results95 Tryd.results96
section
open Go.Shelf Go.RowKit Go.Lib Go.Sort
set_option maxHeartbeats 2000000 in
set_option maxRecDepth 100000 in
theorem Tryd.bld_used (b:Nat)(w:World)(h0:w.cell? ⟨b,0,none⟩=some (.pointer (some ⟨b,0,none⟩))):
  Calls Tryd.prog 19 #[.pointer (some ⟨b,0,none⟩)] w fun e w'=>e=.returned (.tuple #[])/\w'=w:=by
 obtain⟨j,hj,_⟩:=Option.map_eq_some_iff.1 Tryd.Builder_Extra_169.sizeBuilder
 have mixed:=Tryd.lays169.mixed
 have t37:=Tryd.underlying37;have a37:=Tryd.isAgg37;have z37:=Tryd.sizeOf37;have v37:=Tryd.zeroValue37;have u37:=run_underlying Tryd.underlying37
 have t35:=Tryd.underlying35;have a35:=Tryd.isAgg35;have z35:=Tryd.sizeOf35;have v35:=Tryd.zeroValue35;have u35:=run_underlying Tryd.underlying35
 have t9:=Tryd.underlying9;have a9:=Tryd.isAgg9;have z9:=Tryd.sizeOf9;have v9:=Tryd.zeroValue9;have u9:=run_underlying Tryd.underlying9
 have t4:=Tryd.underlying4;have a4:=Tryd.isAgg4;have z4:=Tryd.sizeOf4;have v4:=Tryd.zeroValue4;have u4:=run_underlying Tryd.underlying4
 have t74:=Tryd.underlying74;have a74:=Tryd.isAgg74;have z74:=Tryd.sizeOf74;have v74:=Tryd.zeroValue74;have u74:=run_underlying Tryd.underlying74
 go_enter Tryd.func19,Tryd.ntmps19
 go_wp2
 rw[Lib.run_neq_ptr_same w _ Tryd.underlying35 hj]
 go_wp2
 go_end0
 exact⟨rfl,rfl⟩
set_option maxHeartbeats 2000000 in
set_option maxRecDepth 100000 in
theorem Tryd.bld_fresh (b:Nat)(w:World)(h0:w.cell? ⟨b,0,none⟩=some (.pointer none))(hsh:w.shape? b=some (37,2))(hfz:w.frozen? ⟨b,0,none⟩=false):
  Calls Tryd.prog 19 #[.pointer (some ⟨b,0,none⟩)] w fun e w'=>e=.returned (.tuple #[])/\w'=w.setCell ⟨b,0,none⟩ (.pointer (some ⟨b,0,none⟩)):=by
 obtain⟨j,hj,hjs⟩:=Option.map_eq_some_iff.1 Tryd.Builder_Extra_169.sizeBuilder
 have mixed:=Tryd.lays169.mixed
 have t37:=Tryd.underlying37;have a37:=Tryd.isAgg37;have z37:=Tryd.sizeOf37;have v37:=Tryd.zeroValue37;have u37:=run_underlying Tryd.underlying37
 have t35:=Tryd.underlying35;have a35:=Tryd.isAgg35;have z35:=Tryd.sizeOf35;have v35:=Tryd.zeroValue35;have u35:=run_underlying Tryd.underlying35
 have t9:=Tryd.underlying9;have a9:=Tryd.isAgg9;have z9:=Tryd.sizeOf9;have v9:=Tryd.zeroValue9;have u9:=run_underlying Tryd.underlying9
 have t4:=Tryd.underlying4;have a4:=Tryd.isAgg4;have z4:=Tryd.sizeOf4;have v4:=Tryd.zeroValue4;have u4:=run_underlying Tryd.underlying4
 have t74:=Tryd.underlying74;have a74:=Tryd.isAgg74;have z74:=Tryd.sizeOf74;have v74:=Tryd.zeroValue74;have u74:=run_underlying Tryd.underlying74
 go_enter Tryd.func19,Tryd.ntmps19
 go_wp2
 rw[Lib.run_to_unsafe w ⟨b,0,none⟩ Tryd.underlying35 Tryd.underlying74 hj (by rw[hjs];decide) hsh (Nat.zero_lt_succ 1)]
 simp only[Result.andThen]
 rw[Oper.upon_value]
 go_wp2
 rw[run_callFunc_extern Tryd.func32 (by kernel_rfl) (by kernel_rfl) (by kernel_rfl) (e:=Extern.AbiNoEscape.same) (by kernel_rfl)]
 rw[Lib.run_noEscape]
 simp only[Result.andThen]
 rw[Oper.upon_value]
 go_wp2
 rw[Lib.run_from_unsafe w ⟨b,0,none⟩ Tryd.underlying74 Tryd.underlying35 hj hsh Tryd.Builder_Extra_169.liesBuilder]
 simp only[Result.andThen]
 rw[Oper.upon_value]
 go_wp2
 go_end0
 exact⟨rfl,rfl⟩
theorem Tryd.bld_copyCheck {b:Nat}{p v:Value}{w:World}(hb:w.heap[b]? =some (.cells #[p,v] 37 (0,0)))(hp:p=.pointer none∨p=.pointer (some ⟨b,0,none⟩)):
  Calls Tryd.prog 19 #[.pointer (some ⟨b,0,none⟩)] w fun e w'=>e=.returned (.tuple #[])/\w'.heap[b]? =some (.cells #[.pointer (some ⟨b,0,none⟩),v] 37 (0,0))/\Else b w w':=by
 have c0:w.cell? ⟨b,0,none⟩=some p:=by rw[Lib.cell_of_heap hb];rfl
 rcases hp with rfl|rfl
 ·refine(Tryd.bld_fresh b w c0 (by simp[World.shape?,hb]) (by simp[World.frozen?,hb])).mono ?_
  rintro e w' ⟨rfl,rfl⟩
  exact⟨rfl,by simp[World.setCell,Array.getElem?_modify,hb],Else.set b 0 _ w⟩
 ·refine(Tryd.bld_used b w c0).mono ?_
  rintro e w' ⟨rfl,rfl⟩
  exact⟨rfl,hb,rfl,rfl,rfl,rfl,fun _ _=>rfl⟩
set_option maxHeartbeats 2000000 in
set_option maxRecDepth 100000 in
theorem Tryd.bldW :ZSg Tryd.prog 37 5 10:=by
 intro b p v bs s w hb hp hv hne hlen
 obtain⟨i0,hi,hz0,hz1,hz2⟩:=info_parts Tryd.Builder_Extra_169.infoByte
 have mixed:=Tryd.lays169.mixed
 have t37:=Tryd.underlying37;have a37:=Tryd.isAgg37;have z37:=Tryd.sizeOf37;have v37:=Tryd.zeroValue37;have u37:=run_underlying Tryd.underlying37
 have t35:=Tryd.underlying35;have a35:=Tryd.isAgg35;have z35:=Tryd.sizeOf35;have v35:=Tryd.zeroValue35;have u35:=run_underlying Tryd.underlying35
 have t22:=Tryd.underlying22;have a22:=Tryd.isAgg22;have z22:=Tryd.sizeOf22;have v22:=Tryd.zeroValue22;have u22:=run_underlying Tryd.underlying22
 have t3:=Tryd.underlying3;have a3:=Tryd.isAgg3;have z3:=Tryd.sizeOf3;have v3:=Tryd.zeroValue3;have u3:=run_underlying Tryd.underlying3
 have t9:=Tryd.underlying9;have a9:=Tryd.isAgg9;have z9:=Tryd.sizeOf9;have v9:=Tryd.zeroValue9;have u9:=run_underlying Tryd.underlying9
 have t4:=Tryd.underlying4;have a4:=Tryd.isAgg4;have z4:=Tryd.sizeOf4;have v4:=Tryd.zeroValue4;have u4:=run_underlying Tryd.underlying4
 have t74:=Tryd.underlying74;have a74:=Tryd.isAgg74;have z74:=Tryd.sizeOf74;have v74:=Tryd.zeroValue74;have u74:=run_underlying Tryd.underlying74
 have t5:=Tryd.underlying5;have a5:=Tryd.isAgg5;have z5:=Tryd.sizeOf5;have v5:=Tryd.zeroValue5;have u5:=run_underlying Tryd.underlying5
 have eCC:∀args w,(callFunc 19 args).run Tryd.prog w=.ok (.enter 19 args) w:=enters_of Tryd.func19 (by kernel_rfl) rfl
 go_enter Tryd.func10,Tryd.ntmps10
 go_wp2_with (go_at_fn 19;refine(Tryd.bld_copyCheck hb hp).mono ?_)
 rintro e w0 ⟨rfl,hb0,he0⟩
 have c1:w0.cell? ⟨b,1,none⟩=some v:=by rw[Lib.cell_of_heap hb0];rfl
 have hv0:=hv.else he0 hne
 go_wp2_with (at_builtin;refine ZFE rfl _ _ 22 9 rfl Tryd.underlying22 Tryd.underlying9 hi hz0 hz1 hz2 rfl s rfl hv0 hlen ?_)
 intro v' w1 hap
 have hlt:b<w0.heap.size:=(Array.getElem?_eq_some_iff.1 hb0).1
 have hb1:w1.heap[b]? =some (.cells #[.pointer (some ⟨b,0,none⟩),v] 37 (0,0)):=by rw[hap.others hne hlt];exact hb0
 have d0:w1.cell? ⟨b,0,none⟩=some (.pointer (some ⟨b,0,none⟩)):=by rw[Lib.cell_of_heap hb1];rfl
 have d1:w1.cell? ⟨b,1,none⟩=some v:=by rw[Lib.cell_of_heap hb1];rfl
 have f1:w1.frozen? ⟨b,1,none⟩=false:=Lib.frozen_of_heap hb1 1
 obtain⟨ao,n',cap,rfl⟩:=hap.form hv
 go_wp2
 go_ret2
 exact⟨rfl,_,w0,w1,he0,hb0,hap,rfl⟩
end
variable (B : Nat) (hB1 : 1073741824 <= bd B) (hB2 : bd B <= 9223372036854775807 /\ ZKP B = some 0)
include hB1 hB2
theorem C.f0  (r:List ByteArray)(hF:F.f0=some r):PureCall Tryd.prog B 78 [] (am cS r):=by
 unfold F.f0 at hF
 refine pE Tryd.func78 (by kernel_rfl) rfl Tryd.ntmps78 (by simp) (by simp) ?_
 cases hF
 repeat first|refine cg ?_|simp -dsimp
 all_goals(try first|omega|rfl)
theorem C.f1 (r':ZB)(n:Int)(r:Int×ZB)(hF:F.f1 r' n=some r):MutCall Tryd.prog B 24 [am cU r'.f0,li r'.f1] [.ptr 0 0,li n] (li r.1) [am cU r.2.f0,li r.2.f1]:=by
 unfold F.f1 at hF
 refine MutCall.enter Tryd.func24 (by kernel_rfl) rfl Tryd.ntmps24 (by simp) (by simp) (by simp) (by simp) ?_
 repeat first|refine cg ?_|simp -dsimp
 revert hF;refine aN ?_ ?_<;>intro h1 q2 hF
 ·repeat first|refine cg ?_|simp -dsimp[h1,q2]
  revert hF;refine aS ?_ ?_<;>intro h3 q4 hF
  ·have z5:((r'.f0.length:Int)=0):=auz
   cases hF
   repeat first|refine cg ?_|simp -dsimp[h1,q2,h3,z5]
   all_goals(try first|omega|rfl)
  ·have z5:¬((r'.f0.length:Int)=0):=auz
   repeat first|refine cg ?_|simp -dsimp[h1,q2,h3,q4,z5]
   revert hF;refine aS ?_ ?_<;>intro h6 q7 hF
   ·have hF:=ob hF;obtain⟨x,e8a,hF⟩:=hF
    have e8a:=ZZ e8a;obtain⟨ne8,e8⟩:=e8a
    have le8:=ZD e8
    have hF:=oc hF;obtain⟨c9,hF⟩:=hF
    cases hF
    repeat first|refine cg ?_|simp -dsimp[h1,q2,h3,q4,z5,h6,↓e8]
    all_goals(try first|omega|rfl)
   ·repeat first|refine cg ?_|simp -dsimp[h1,q2,h3,q4,z5,h6,q7]
    refine ADraw.simple follows (by kernel_rfl) (by kernel_rfl) ?_
    have hF:=oc hF;obtain⟨c10,hF⟩:=hF
    have hF:=ob hF;obtain⟨x11,e12a,hF⟩:=hF
    have e12a:=ZZ e12a;obtain⟨ne12,e12⟩:=e12a
    have le12:=ZD e12
    have hF:=ob hF;obtain⟨x13,e14a,hF⟩:=hF
    have e14a:=ZZ e14a;obtain⟨ne14,e14⟩:=e14a
    have le14:=ZD e14
    have hF:=oc hF;obtain⟨c15,hF⟩:=hF
    cases hF
    repeat first|refine cg ?_|simp -dsimp[h1,q2,h3,q4,z5,h6,q7,↓e12,↓e14]
    all_goals(try first|omega|rfl)
 ·cases hF
  repeat first|refine cg ?_|simp -dsimp[h1,q2]
  all_goals(try first|omega|rfl)
theorem CC.f2 (s:ByteArray)(c':Int):(∀(out:List ByteArray) (from':Nat) (i:Nat) (o:List ByteArray),F.f2 s c' out from' i=some o->∀(c:Code),Zr [1,1,1,0,1,0,0] (ZI Tryd.f86)=some c->∀(Q:Exit->ASt->Prop),(Q (.exit 0) ⟨[(5,.own 0 (List.length (α:=ByteArray) o))],[.elems 1 (List.map cS o)]⟩)->ALoopU Tryd.prog B 0 36 (hold c .mk) ⟨[(0,.lit (.string s)),(1,.lit (.int .u8 c')),(5,.own 0 (List.length (α:=ByteArray) out)),(6,li (from':Int)),(7,li (i:Int))],[.elems 1 (List.map cS out)]⟩ (hold Q .mk)):=by
 refine F.f2.partial_correctness s c'
  _
  ?_
 ·intro _f_f2 ih_f2 out from' i o hF
  intro c hc Q hq
  obtain rfl:c=_:=ZQ hc rfl
  refine kN fun hk hs=> ?_
  have d0:=hs 0 _ rfl
  simp -dsimp[Blk.bnd]at d0
  clear hk hs
  refine eN ?_
  repeat first|refine cg ?_|simp -dsimp
  revert hF;refine aS ?_ ?_<;>intro h1 q2 hF
  ·have z3:((i:Int)<=(s.size:Int)):=auz
   repeat first|refine cg ?_|simp -dsimp[h1,z3]
   revert hF;refine aN ?_ ?_<;>intro h4 q5 hF
   ·have z6:¬((i:Int)=(s.size:Int)):=auz
    have hF:=oc hF;obtain⟨c7,hF⟩:=hF
    repeat first|refine cg ?_|simp -dsimp[h1,z3,h4,q5,z6]
    revert hF;refine aS ?_ ?_<;>intro h8 q9 hF
    ·have hF:=oc hF;obtain⟨c10,hF⟩:=hF
     have hF:=oc hF;obtain⟨c11,hF⟩:=hF
     have hF:=oc hF;obtain⟨c12,hF⟩:=hF
     have w13:i64.wrap ((i:Int)+1)=(i:Int)+1:=ZE (by omega) (by omega)
     have w14:i64.wrap ((i:Int)+1)=(i:Int)+1:=ZE (by omega) (by omega)
     repeat first|refine cg ?_|simp -dsimp[h1,z3,h4,q5,z6,h8,w13,w14]
     refine aG _ ?_ ((ih_f2 (out++[s.extract from' i]) (i+1) (i+1) o hF) _ rfl _ hq)
     exact(gT (by simp) (by first|simp -dsimp[h1,z3,h4,q5,z6,h8,w13,w14];done|simp_all))
    ·have hF:=oc hF;obtain⟨c15,hF⟩:=hF
     have w16:i64.wrap ((i:Int)+1)=(i:Int)+1:=ZE (by omega) (by omega)
     repeat first|refine cg ?_|simp -dsimp[h1,z3,h4,q5,z6,h8,q9,w16]
     refine aG _ ?_ ((ih_f2 out from' (i+1) o hF) _ rfl _ hq)
     exact(gT (by simp) (by first|simp -dsimp[h1,z3,h4,q5,z6,h8,q9,w16];done|simp_all))
   ·have z6:((i:Int)=(s.size:Int)):=auz
    have hF:=oc hF;obtain⟨c17,hF⟩:=hF
    have hF:=oc hF;obtain⟨c18,hF⟩:=hF
    have hF:=oc hF;obtain⟨c19,hF⟩:=hF
    have w20:i64.wrap ((i:Int)+1)=(i:Int)+1:=ZE (by omega) (by omega)
    have w21:i64.wrap ((i:Int)+1)=(i:Int)+1:=ZE (by omega) (by omega)
    repeat first|refine cg ?_|simp -dsimp[h1,z3,h4,q5,z6,w20,w21]
    refine aG _ ?_ ((ih_f2 (out++[s.extract from' i]) (i+1) (i+1) o hF) _ rfl _ hq)
    exact(gT (by simp) (by first|simp -dsimp[h1,z3,h4,q5,z6,w20,w21];done|simp_all))
  ·have z3:¬((i:Int)<=(s.size:Int)):=auz
   cases hF
   repeat first|refine cg ?_|simp -dsimp[h1,q2,z3]
   refine lG _ (gT (by simp) (by first|simp -dsimp[h1,q2,z3];done|simp_all)) hq
theorem C.f3 (s:ByteArray)(c':Int)(r:List ByteArray)(hF:F.f3 s c'=some r):PureCall Tryd.prog B 86 [.lit (.string s),.lit (.int .u8 c')] (am cS r):=by
 unfold F.f3 at hF
 refine pE Tryd.func86 (by kernel_rfl) rfl Tryd.ntmps86 (by simp) (by simp) ?_
 repeat first|refine cg ?_|simp -dsimp
 have hF:=ob hF;obtain⟨o',ho22,hF⟩:=hF
 refine ALoop.goU _ ?_ (((CC.f2 B hB1 hB2 s c') [] 0 0 o' ho22) _ rfl _ ?_)
 ·exact(gT (by simp) (by simp -dsimp))
 cases hF
 repeat first|refine cg ?_|simp -dsimp
 all_goals(try first|omega|rfl)
theorem CC.f4 (names:List ByteArray)(s:ByteArray):(∀(i:Nat) (o:Lo Int Unit),F.f4 names s i=some o->∀(c:Code),Zr [1,1,0,1,0,0] (ZI Tryd.f94)=some c->∀(Q:Exit->ASt->Prop),o.post (fun r=>∀st,ZCf Tryd.prog Tryd.f94 (fun r' _=>r'.le (li r)) .ret st->Q .ret st) (fun s=>Q (.exit 0) ⟨[],[]⟩)->ALoopU Tryd.prog B 0 21 (hold c .mk) ⟨[(0,am cS names),(1,.lit (.string s)),(5,li (i:Int))],[]⟩ (hold Q .mk)):=by
 refine F.f4.partial_correctness names s
  _
  ?_
 ·intro _f_f4 ih_f4 i o hF
  intro c hc Q hq
  obtain rfl:c=_:=ZQ hc rfl
  refine kN fun hk hs=> ?_
  have b0:=hk 0
  simp -dsimp at b0
  clear hk hs
  refine eN ?_
  repeat first|refine cg ?_|simp -dsimp
  revert hF;refine aS ?_ ?_<;>intro h3 q4 hF
  ·have z5:((i:Int)<(names.length:Int)):=auz
   have hF:=ob hF;obtain⟨x,e6,hF⟩:=hF
   have le6:=ZD e6
   repeat first|refine cg ?_|simp -dsimp[h3,z5,↓e6]
   revert hF;refine aS ?_ ?_<;>intro h7 q8 hF
   ·cases hF
    repeat first|refine cg ?_|simp -dsimp[h3,z5,↓e6,h7]
    refine lG _ (gR _) (hq _ ?_)
    repeat first|refine cg ?_|simp -dsimp[h3,z5,↓e6,h7]
   ·have w9:i64.wrap ((i:Int)+1)=(i:Int)+1:=ZE (by omega) (by omega)
    repeat first|refine cg ?_|simp -dsimp[h3,z5,↓e6,h7,q8,w9]
    refine aG _ ?_ ((ih_f4 (i+1) o hF) _ rfl _ hq)
    exact(gT (by simp) (by first|simp -dsimp[h3,z5,↓e6,h7,q8,w9];done|simp_all))
  ·have z5:¬((i:Int)<(names.length:Int)):=auz
   cases hF
   repeat first|refine cg ?_|simp -dsimp[h3,q4,z5]
   refine lG _ (gT (by simp) (by first|simp -dsimp[h3,q4,z5];done|simp_all)) hq
theorem C.f5 (names:List ByteArray)(s:ByteArray)(r:Int)(hF:F.f5 names s=some r):PureCall Tryd.prog B 94 [am cS names,.lit (.string s)] (li r):=by
 unfold F.f5 at hF
 refine pE Tryd.func94 (by kernel_rfl) rfl Tryd.ntmps94 (by simp) (by simp) ?_
 repeat first|refine cg ?_|simp -dsimp
 revert hF;refine aS ?_ ?_<;>intro h1 q2 hF
 ·cases hF
  repeat first|refine cg ?_|simp -dsimp[h1]
  all_goals(try first|omega|rfl)
 ·repeat first|refine cg ?_|simp -dsimp[h1,q2]
  have hF:=ob hF;obtain⟨o',ho10,hF⟩:=hF
  refine ALoop.goU _ ?_ (((CC.f4 B hB1 hB2 names s) 0 o' ho10) _ rfl _ ?_)
  ·exact(gT (by simp) (by first|simp -dsimp[h1,q2];done|simp_all))
  rcases o' with r0|sx
  ·dsimp only at hF
   cases hF
   intro st h
   simpa using h
  ·dsimp only at hF
   cases hF
   repeat first|refine cg ?_|simp -dsimp
   all_goals(try first|omega|rfl)
theorem C.f6 (names:List ByteArray)(s:ByteArray)(r:Ty)(hF:F.f6 names s=some r):PureCall Tryd.prog B 92 [am cS names,.lit (.string s)] (.agg [li r.data,li r.index]):=by
 unfold F.f6 at hF
 refine pE Tryd.func92 (by kernel_rfl) rfl Tryd.ntmps92 (by simp) (by simp) ?_
 repeat first|refine cg ?_|simp -dsimp
 revert hF;refine aS ?_ ?_<;>intro h1 q2 hF
 ·cases hF
  repeat first|refine cg ?_|simp -dsimp[h1]
  all_goals(try first|omega|rfl)
 ·have hF:=oc hF;obtain⟨c3,hF⟩:=hF
  repeat first|refine cg ?_|simp -dsimp[h1,q2]
  have hF:=ob hF;obtain⟨v,e4,hF⟩:=hF
  refine((C.f5 B hB1 hB2 names (s.extract 0 1) v e4)).goW (by first|simp[h1,q2];done|simp_all) (by simp) ?_
  repeat first|refine cg ?_|simp -dsimp[h1,q2]
  revert hF;refine aS ?_ ?_<;>intro h5 q6 hF
  ·cases hF
   repeat first|refine cg ?_|simp -dsimp[h1,q2,h5]
   all_goals(try first|omega|rfl)
  ·repeat first|refine cg ?_|simp -dsimp[h1,q2,h5,q6]
   revert hF;refine aS ?_ ?_<;>intro h7 q8 hF
   ·have z9:((s.size:Int)=2):=auz
    have hF:=oc hF;obtain⟨c10,hF⟩:=hF
    repeat first|refine cg ?_|simp -dsimp[h1,q2,h5,q6,h7,z9]
    revert hF;refine aS ?_ ?_<;>intro h11 q12 hF
    ·have z13:(48<=((byteAt s 1:Nat):Int)):=auz
     repeat first|refine cg ?_|simp -dsimp[h1,q2,h5,q6,h7,z9,h11,z13]
     revert hF;refine aS ?_ ?_<;>intro h14 q15 hF
     ·have z16:(((byteAt s 1:Nat):Int)<=57):=auz
      cases hF
      repeat first|refine cg ?_|simp -dsimp[h1,q2,h5,q6,h7,z9,h11,z13,h14,z16]
      all_goals(try first|omega|rfl)
     ·have z16:¬(((byteAt s 1:Nat):Int)<=57):=auz
      cases hF
      repeat first|refine cg ?_|simp -dsimp[h1,q2,h5,q6,h7,z9,h11,z13,h14,q15,z16]
      all_goals(try first|omega|rfl)
    ·have z13:¬(48<=((byteAt s 1:Nat):Int)):=auz
     cases hF
     repeat first|refine cg ?_|simp -dsimp[h1,q2,h5,q6,h7,z9,h11,q12,z13]
     all_goals(try first|omega|rfl)
   ·have z9:¬((s.size:Int)=2):=auz
    cases hF
    repeat first|refine cg ?_|simp -dsimp[h1,q2,h5,q6,h7,q8,z9]
    all_goals(try first|omega|rfl)
theorem CC.f7 (names:List ByteArray)(s:ByteArray)(x:ByteArray)(v21:List ByteArray):(∀(out:List Ty) (i:Nat) (o:List Ty),F.f7 names s x v21 out i=some o->∀(c:Code),Zr [1,1,1,1,1,1,1,0,1,0,0] (ZI Tryd.f87)=some c->∀(Q:Exit->ASt->Prop),(Q (.exit 0) ⟨[(4,.ptr 0 0),(5,.ptr 1 0)],[.cells [.lit (.string ByteArray.empty),.lit (.slice none 0 0),li 0],.cells [.lit (.string x),.own 2 (List.length (α:=Ty) o),.lit (.int .i64 (i64.wrap (i64.wrap ((byteAt s ((i64.wrap ((s.size:Int) -1)).toNat):Nat):Int) -48)))],.elems 2 (List.map Ty.c o)]⟩)->ALoopU Tryd.prog B 0 83 (hold c .mk) ⟨[(0,am cS names),(4,.ptr 0 0),(5,.ptr 1 0),(7,am cS v21),(8,li (i:Int))],[.cells [.lit (.string ByteArray.empty),.lit (.slice none 0 0),li 0],.cells [.lit (.string x),.own 2 (List.length (α:=Ty) out),.lit (.int .i64 (i64.wrap (i64.wrap ((byteAt s ((i64.wrap ((s.size:Int) -1)).toNat):Nat):Int) -48)))],.elems 2 (List.map Ty.c out)]⟩ (hold Q .mk)):=by
 refine F.f7.partial_correctness names s x v21
  _
  ?_
 ·intro _f_f7 ih_f7 out i o hF
  intro c hc Q hq
  obtain rfl:c=_:=ZQ hc rfl
  refine kN fun hk hs=> ?_
  have b0:=hk 0
  simp -dsimp at b0
  have b7:=hk 7
  simp -dsimp at b7
  have d2:=hs 2 _ rfl
  simp -dsimp[Blk.bnd]at d2
  clear hk hs
  refine eN ?_
  repeat first|refine cg ?_|simp -dsimp
  revert hF;refine aS ?_ ?_<;>intro h23 q24 hF
  ·have z25:((i:Int)<(v21.length:Int)):=auz
   repeat first|refine cg ?_|simp -dsimp[h23,z25]
   revert hF;refine aS ?_ ?_<;>intro h26 q27 hF
   ·have z28:((i:Int)<=3):=auz
    repeat first|refine cg ?_|simp -dsimp[h23,z25,h26,z28]
    refine ADraw.eff [] [(0,1),(0,1),(0,0),(0,0),(0,0),(0,0),(0,0),(0,3),(0,3),(0,3),(2,2),(0,3)] [0,2,1,1,1,1,1,1,1,1,1,1] follows (by kernel_rfl) (by kernel_rfl) (by kernel_rfl) ?_
    have hF:=ob hF;obtain⟨x29,e30,hF⟩:=hF
    have le30:=ZD e30
    repeat first|refine cg ?_|simp -dsimp[h23,z25,h26,z28,↓e30]
    have hF:=ob hF;obtain⟨v31,e32,hF⟩:=hF
    refine((C.f6 B hB1 hB2 names x29 v31 e32)).pgoW (by first|simp[h23,z25,h26,z28,↓e30];done|simp_all) (by simp) ?_
    have hF:=oc hF;obtain⟨c33,hF⟩:=hF
    have w34:i64.wrap ((i:Int)+1)=(i:Int)+1:=ZE (by omega) (by omega)
    repeat first|refine cg ?_|simp -dsimp[h23,z25,h26,z28,↓e30,w34]
    refine aG _ ?_ ((ih_f7 (out++[v31]) (i+1) o hF) _ rfl _ hq)
    exact(gT (by simp) (by first|simp -dsimp[h23,z25,h26,z28,↓e30,w34];done|simp_all))
   ·have z28:¬((i:Int)<=3):=auz
    cases hF
    repeat first|refine cg ?_|simp -dsimp[h23,z25,h26,q27,z28]
    refine lG _ (gT (by simp) (by first|simp -dsimp[h23,z25,h26,q27,z28];done|simp_all)) hq
  ·have z25:¬((i:Int)<(v21.length:Int)):=auz
   cases hF
   repeat first|refine cg ?_|simp -dsimp[h23,q24,z25]
   refine lG _ (gT (by simp) (by first|simp -dsimp[h23,q24,z25];done|simp_all)) hq
theorem CC.f8 (names:List ByteArray)(x38:ByteArray)(v49:List ByteArray):(∀(out51:List Ty) (i52:Nat) (o:List Ty),F.f8 names x38 v49 out51 i52=some o->∀(c:Code),Zr [1,1,1,1,1,1,1,0,1,0,0] (ZI Tryd.f87)=some c->∀(Q:Exit->ASt->Prop),(Q (.exit 0) ⟨[(4,.ptr 0 0),(5,.ptr 1 0)],[.cells [.lit (.string ByteArray.empty),.lit (.slice none 0 0),li 0],.cells [.lit (.string x38),.own 2 (List.length (α:=Ty) o),li 0],.elems 2 (List.map Ty.c o)]⟩)->ALoopU Tryd.prog B 0 83 (hold c .mk) ⟨[(0,am cS names),(4,.ptr 0 0),(5,.ptr 1 0),(7,am cS v49),(8,li (i52:Int))],[.cells [.lit (.string ByteArray.empty),.lit (.slice none 0 0),li 0],.cells [.lit (.string x38),.own 2 (List.length (α:=Ty) out51),li 0],.elems 2 (List.map Ty.c out51)]⟩ (hold Q .mk)):=by
 refine F.f8.partial_correctness names x38 v49
  _
  ?_
 ·intro _f_f8 ih_f8 out51 i52 o hF
  intro c hc Q hq
  obtain rfl:c=_:=ZQ hc rfl
  refine kN fun hk hs=> ?_
  have b0:=hk 0
  simp -dsimp at b0
  have b7:=hk 7
  simp -dsimp at b7
  have d2:=hs 2 _ rfl
  simp -dsimp[Blk.bnd]at d2
  clear hk hs
  refine eN ?_
  repeat first|refine cg ?_|simp -dsimp
  revert hF;refine aS ?_ ?_<;>intro h53 q54 hF
  ·have z55:((i52:Int)<(v49.length:Int)):=auz
   repeat first|refine cg ?_|simp -dsimp[h53,z55]
   revert hF;refine aS ?_ ?_<;>intro h56 q57 hF
   ·have z58:((i52:Int)<=3):=auz
    repeat first|refine cg ?_|simp -dsimp[h53,z55,h56,z58]
    refine ADraw.eff [] [(0,1),(0,1),(0,0),(0,0),(0,0),(0,0),(0,0),(0,3),(0,3),(0,3),(2,2),(0,3)] [0,2,1,1,1,1,1,1,1,1,1,1] follows (by kernel_rfl) (by kernel_rfl) (by kernel_rfl) ?_
    have hF:=ob hF;obtain⟨x59,e60,hF⟩:=hF
    have le60:=ZD e60
    repeat first|refine cg ?_|simp -dsimp[h53,z55,h56,z58,↓e60]
    have hF:=ob hF;obtain⟨v61,e62,hF⟩:=hF
    refine((C.f6 B hB1 hB2 names x59 v61 e62)).pgoW (by first|simp[h53,z55,h56,z58,↓e60];done|simp_all) (by simp) ?_
    have hF:=oc hF;obtain⟨c63,hF⟩:=hF
    have w64:i64.wrap ((i52:Int)+1)=(i52:Int)+1:=ZE (by omega) (by omega)
    repeat first|refine cg ?_|simp -dsimp[h53,z55,h56,z58,↓e60,w64]
    refine aG _ ?_ ((ih_f8 (out51++[v61]) (i52+1) o hF) _ rfl _ hq)
    exact(gT (by simp) (by first|simp -dsimp[h53,z55,h56,z58,↓e60,w64];done|simp_all))
   ·have z58:¬((i52:Int)<=3):=auz
    cases hF
    repeat first|refine cg ?_|simp -dsimp[h53,z55,h56,q57,z58]
    refine lG _ (gT (by simp) (by first|simp -dsimp[h53,z55,h56,q57,z58];done|simp_all)) hq
  ·have z55:¬((i52:Int)<(v49.length:Int)):=auz
   cases hF
   repeat first|refine cg ?_|simp -dsimp[h53,q54,z55]
   refine lG _ (gT (by simp) (by first|simp -dsimp[h53,q54,z55];done|simp_all)) hq
theorem CC.f9 (names:List ByteArray)(x69:ByteArray)(v80:List ByteArray):(∀(out82:List Ty) (i83:Nat) (o:List Ty),F.f9 names x69 v80 out82 i83=some o->∀(c:Code),Zr [1,1,1,1,1,1,1,0,1,0,0] (ZI Tryd.f87)=some c->∀(Q:Exit->ASt->Prop),(Q (.exit 0) ⟨[(4,.ptr 0 0),(5,.ptr 1 0)],[.cells [.lit (.string ByteArray.empty),.lit (.slice none 0 0),li 0],.cells [.lit (.string x69),.own 2 (List.length (α:=Ty) o),li 0],.elems 2 (List.map Ty.c o)]⟩)->ALoopU Tryd.prog B 0 83 (hold c .mk) ⟨[(0,am cS names),(4,.ptr 0 0),(5,.ptr 1 0),(7,am cS v80),(8,li (i83:Int))],[.cells [.lit (.string ByteArray.empty),.lit (.slice none 0 0),li 0],.cells [.lit (.string x69),.own 2 (List.length (α:=Ty) out82),li 0],.elems 2 (List.map Ty.c out82)]⟩ (hold Q .mk)):=by
 refine F.f9.partial_correctness names x69 v80
  _
  ?_
 ·intro _f_f9 ih_f9 out82 i83 o hF
  intro c hc Q hq
  obtain rfl:c=_:=ZQ hc rfl
  refine kN fun hk hs=> ?_
  have b0:=hk 0
  simp -dsimp at b0
  have b7:=hk 7
  simp -dsimp at b7
  have d2:=hs 2 _ rfl
  simp -dsimp[Blk.bnd]at d2
  clear hk hs
  refine eN ?_
  repeat first|refine cg ?_|simp -dsimp
  revert hF;refine aS ?_ ?_<;>intro h84 q85 hF
  ·have z86:((i83:Int)<(v80.length:Int)):=auz
   repeat first|refine cg ?_|simp -dsimp[h84,z86]
   revert hF;refine aS ?_ ?_<;>intro h87 q88 hF
   ·have z89:((i83:Int)<=3):=auz
    repeat first|refine cg ?_|simp -dsimp[h84,z86,h87,z89]
    refine ADraw.eff [] [(0,1),(0,1),(0,0),(0,0),(0,0),(0,0),(0,0),(0,3),(0,3),(0,3),(2,2),(0,3)] [0,2,1,1,1,1,1,1,1,1,1,1] follows (by kernel_rfl) (by kernel_rfl) (by kernel_rfl) ?_
    have hF:=ob hF;obtain⟨x90,e91,hF⟩:=hF
    have le91:=ZD e91
    repeat first|refine cg ?_|simp -dsimp[h84,z86,h87,z89,↓e91]
    have hF:=ob hF;obtain⟨v92,e93,hF⟩:=hF
    refine((C.f6 B hB1 hB2 names x90 v92 e93)).pgoW (by first|simp[h84,z86,h87,z89,↓e91];done|simp_all) (by simp) ?_
    have hF:=oc hF;obtain⟨c94,hF⟩:=hF
    have w95:i64.wrap ((i83:Int)+1)=(i83:Int)+1:=ZE (by omega) (by omega)
    repeat first|refine cg ?_|simp -dsimp[h84,z86,h87,z89,↓e91,w95]
    refine aG _ ?_ ((ih_f9 (out82++[v92]) (i83+1) o hF) _ rfl _ hq)
    exact(gT (by simp) (by first|simp -dsimp[h84,z86,h87,z89,↓e91,w95];done|simp_all))
   ·have z89:¬((i83:Int)<=3):=auz
    cases hF
    repeat first|refine cg ?_|simp -dsimp[h84,z86,h87,q88,z89]
    refine lG _ (gT (by simp) (by first|simp -dsimp[h84,z86,h87,q88,z89];done|simp_all)) hq
  ·have z86:¬((i83:Int)<(v80.length:Int)):=auz
   cases hF
   repeat first|refine cg ?_|simp -dsimp[h84,q85,z86]
   refine lG _ (gT (by simp) (by first|simp -dsimp[h84,q85,z86];done|simp_all)) hq
theorem C.f10 (names:List ByteArray)(s:ByteArray)(r:Ctor)(hF:F.f10 names s=some r):PureCall Tryd.prog B 87 [am cS names,.lit (.string s)] (.agg [.lit (.string r.name),am Ty.c r.args,li r.index]):=by
 unfold F.f10 at hF
 refine pE Tryd.func87 (by kernel_rfl) rfl Tryd.ntmps87 (by simp) (by simp) ?_
 repeat first|refine cg ?_|simp -dsimp
 revert hF;refine aS ?_ ?_<;>intro h1 q2 hF
 ·have z3:(2<(s.size:Int)):=auz
  have hF:=oc hF;obtain⟨c4,hF⟩:=hF
  repeat first|refine cg ?_|simp -dsimp[h1,z3]
  revert hF;refine aS ?_ ?_<;>intro h5 q6 hF
  ·have z7:(((byteAt s ((i64.wrap ((s.size:Int) -2)).toNat):Nat):Int)=58):=auz
   have hF:=oc hF;obtain⟨c8,hF⟩:=hF
   have hF:=oc hF;obtain⟨c9,hF⟩:=hF
   repeat first|refine cg ?_|simp -dsimp[h1,z3,h5,z7]
   have hF:=ob hF;obtain⟨v,e10,hF⟩:=hF
   refine((C.f3 B hB1 hB2 (s.extract 0 ((i64.wrap ((s.size:Int) -2)).toNat)) 40 v e10)).goW (by first|simp[h1,z3,h5,z7];done|simp_all) (by simp) ?_
   have hF:=ob hF;obtain⟨x,e11,hF⟩:=hF
   have le11:=ZD e11
   repeat first|refine cg ?_|simp -dsimp[h1,z3,h5,z7,↓e11]
   revert hF;refine aN ?_ ?_<;>intro h12 q13 hF
   ·have z14:¬((v.length:Int)<2):=auz
    have hF:=ob hF;obtain⟨x15,e16,hF⟩:=hF
    have le16:=ZD e16
    repeat first|refine cg ?_|simp -dsimp[h1,z3,h5,z7,↓e11,h12,q13,z14,↓e16]
    revert hF;refine aS ?_ ?_<;>intro h17 q18 hF
    ·have z19:((x15.size:Int)=0):=auz
     cases hF
     repeat first|refine cg ?_|simp -dsimp[h1,z3,h5,z7,↓e11,h12,q13,z14,↓e16,h17,z19]
     all_goals(try first|omega|rfl)
    ·have z19:¬((x15.size:Int)=0):=auz
     repeat first|refine cg ?_|simp -dsimp[h1,z3,h5,z7,↓e11,h12,q13,z14,↓e16,h17,q18,z19]
     refine ADraw.simple follows (by kernel_rfl) (by kernel_rfl) ?_
     have hF:=oc hF;obtain⟨c20,hF⟩:=hF
     repeat first|refine cg ?_|simp -dsimp[h1,z3,h5,z7,↓e11,h12,q13,z14,↓e16,h17,q18,z19]
     have hF:=ob hF;obtain⟨v21,e22,hF⟩:=hF
     refine((C.f3 B hB1 hB2 (x15.extract 0 ((i64.wrap ((x15.size:Int) -1)).toNat)) 44 v21 e22)).pgoW (by first|simp[h1,z3,h5,z7,↓e11,h12,q13,z14,↓e16,h17,q18,z19];done|simp_all) (by simp) ?_
     repeat first|refine cg ?_|simp -dsimp[h1,z3,h5,z7,↓e11,h12,q13,z14,↓e16,h17,q18,z19]
     have hF:=ob hF;obtain⟨o',ho35,hF⟩:=hF
     refine ALoop.goU ⟨[(0,.arr (List.map cS names)),(4,.ptr 0 0),(5,.ptr 1 0),(7,.arr (List.map cS v21)),(8,.lit (.int .i64 0))],[.cells [.lit (.string ByteArray.empty),.lit (.slice none 0 0),.lit (.int .i64 0)],.cells [.lit (.string x),.own 2 (List.length (α:=Ty) []),.lit (.int .i64 (i64.wrap (i64.wrap ((byteAt s ((i64.wrap ((s.size:Int) -1)).toNat):Nat):Int) -48)))],.elems 2 (List.map Ty.c [])]⟩ (by refine Gh.trans (Gh.nilCell 1 1 2 (by simp -dsimp;rfl) (by simp -dsimp)) ?_;exact(gT (by simp) (by first|simp -dsimp[h1,z3,h5,z7,↓e11,h12,q13,z14,↓e16,h17,q18,z19];done|simp_all))) ?_
     refine((CC.f7 B hB1 hB2 names s x v21) [] 0 o' ho35) _ rfl _ ?_
     cases hF
     repeat first|refine cg ?_|simp -dsimp
     all_goals(try first|omega|rfl)
   ·have z14:((v.length:Int)<2):=auz
    cases hF
    repeat first|refine cg ?_|simp -dsimp[h1,z3,h5,z7,↓e11,h12,q13,z14]
    all_goals(try first|omega|rfl)
  ·have z7:¬(((byteAt s ((i64.wrap ((s.size:Int) -2)).toNat):Nat):Int)=58):=auz
   repeat first|refine cg ?_|simp -dsimp[h1,z3,h5,q6,z7]
   have hF:=ob hF;obtain⟨v36,e37,hF⟩:=hF
   refine((C.f3 B hB1 hB2 s 40 v36 e37)).goW (by first|simp[h1,z3,h5,q6,z7];done|simp_all) (by simp) ?_
   have hF:=ob hF;obtain⟨x38,e39,hF⟩:=hF
   have le39:=ZD e39
   repeat first|refine cg ?_|simp -dsimp[h1,z3,h5,q6,z7,↓e39]
   revert hF;refine aN ?_ ?_<;>intro h40 q41 hF
   ·have z42:¬((v36.length:Int)<2):=auz
    have hF:=ob hF;obtain⟨x43,e44,hF⟩:=hF
    have le44:=ZD e44
    repeat first|refine cg ?_|simp -dsimp[h1,z3,h5,q6,z7,↓e39,h40,q41,z42,↓e44]
    revert hF;refine aS ?_ ?_<;>intro h45 q46 hF
    ·have z47:((x43.size:Int)=0):=auz
     cases hF
     repeat first|refine cg ?_|simp -dsimp[h1,z3,h5,q6,z7,↓e39,h40,q41,z42,↓e44,h45,z47]
     all_goals(try first|omega|rfl)
    ·have z47:¬((x43.size:Int)=0):=auz
     repeat first|refine cg ?_|simp -dsimp[h1,z3,h5,q6,z7,↓e39,h40,q41,z42,↓e44,h45,q46,z47]
     refine ADraw.simple follows (by kernel_rfl) (by kernel_rfl) ?_
     have hF:=oc hF;obtain⟨c48,hF⟩:=hF
     repeat first|refine cg ?_|simp -dsimp[h1,z3,h5,q6,z7,↓e39,h40,q41,z42,↓e44,h45,q46,z47]
     have hF:=ob hF;obtain⟨v49,e50,hF⟩:=hF
     refine((C.f3 B hB1 hB2 (x43.extract 0 ((i64.wrap ((x43.size:Int) -1)).toNat)) 44 v49 e50)).pgoW (by first|simp[h1,z3,h5,q6,z7,↓e39,h40,q41,z42,↓e44,h45,q46,z47];done|simp_all) (by simp) ?_
     repeat first|refine cg ?_|simp -dsimp[h1,z3,h5,q6,z7,↓e39,h40,q41,z42,↓e44,h45,q46,z47]
     have hF:=ob hF;obtain⟨o'66,ho65,hF⟩:=hF
     refine ALoop.goU ⟨[(0,.arr (List.map cS names)),(4,.ptr 0 0),(5,.ptr 1 0),(7,.arr (List.map cS v49)),(8,.lit (.int .i64 0))],[.cells [.lit (.string ByteArray.empty),.lit (.slice none 0 0),.lit (.int .i64 0)],.cells [.lit (.string x38),.own 2 (List.length (α:=Ty) []),.lit (.int .i64 0)],.elems 2 (List.map Ty.c [])]⟩ (by refine Gh.trans (Gh.nilCell 1 1 2 (by simp -dsimp;rfl) (by simp -dsimp)) ?_;exact(gT (by simp) (by first|simp -dsimp[h1,z3,h5,q6,z7,↓e39,h40,q41,z42,↓e44,h45,q46,z47];done|simp_all))) ?_
     refine((CC.f8 B hB1 hB2 names x38 v49) [] 0 o'66 ho65) _ rfl _ ?_
     cases hF
     repeat first|refine cg ?_|simp -dsimp
     all_goals(try first|omega|rfl)
   ·have z42:((v36.length:Int)<2):=auz
    cases hF
    repeat first|refine cg ?_|simp -dsimp[h1,z3,h5,q6,z7,↓e39,h40,q41,z42]
    all_goals(try first|omega|rfl)
 ·have z3:¬(2<(s.size:Int)):=auz
  repeat first|refine cg ?_|simp -dsimp[h1,q2,z3]
  have hF:=ob hF;obtain⟨v67,e68,hF⟩:=hF
  refine((C.f3 B hB1 hB2 s 40 v67 e68)).goW (by first|simp[h1,q2,z3];done|simp_all) (by simp) ?_
  have hF:=ob hF;obtain⟨x69,e70,hF⟩:=hF
  have le70:=ZD e70
  repeat first|refine cg ?_|simp -dsimp[h1,q2,z3,↓e70]
  revert hF;refine aN ?_ ?_<;>intro h71 q72 hF
  ·have z73:¬((v67.length:Int)<2):=auz
   have hF:=ob hF;obtain⟨x74,e75,hF⟩:=hF
   have le75:=ZD e75
   repeat first|refine cg ?_|simp -dsimp[h1,q2,z3,↓e70,h71,q72,z73,↓e75]
   revert hF;refine aS ?_ ?_<;>intro h76 q77 hF
   ·have z78:((x74.size:Int)=0):=auz
    cases hF
    repeat first|refine cg ?_|simp -dsimp[h1,q2,z3,↓e70,h71,q72,z73,↓e75,h76,z78]
    all_goals(try first|omega|rfl)
   ·have z78:¬((x74.size:Int)=0):=auz
    repeat first|refine cg ?_|simp -dsimp[h1,q2,z3,↓e70,h71,q72,z73,↓e75,h76,q77,z78]
    refine ADraw.simple follows (by kernel_rfl) (by kernel_rfl) ?_
    have hF:=oc hF;obtain⟨c79,hF⟩:=hF
    repeat first|refine cg ?_|simp -dsimp[h1,q2,z3,↓e70,h71,q72,z73,↓e75,h76,q77,z78]
    have hF:=ob hF;obtain⟨v80,e81,hF⟩:=hF
    refine((C.f3 B hB1 hB2 (x74.extract 0 ((i64.wrap ((x74.size:Int) -1)).toNat)) 44 v80 e81)).pgoW (by first|simp[h1,q2,z3,↓e70,h71,q72,z73,↓e75,h76,q77,z78];done|simp_all) (by simp) ?_
    repeat first|refine cg ?_|simp -dsimp[h1,q2,z3,↓e70,h71,q72,z73,↓e75,h76,q77,z78]
    have hF:=ob hF;obtain⟨o'97,ho96,hF⟩:=hF
    refine ALoop.goU ⟨[(0,.arr (List.map cS names)),(4,.ptr 0 0),(5,.ptr 1 0),(7,.arr (List.map cS v80)),(8,.lit (.int .i64 0))],[.cells [.lit (.string ByteArray.empty),.lit (.slice none 0 0),.lit (.int .i64 0)],.cells [.lit (.string x69),.own 2 (List.length (α:=Ty) []),.lit (.int .i64 0)],.elems 2 (List.map Ty.c [])]⟩ (by refine Gh.trans (Gh.nilCell 1 1 2 (by simp -dsimp;rfl) (by simp -dsimp)) ?_;exact(gT (by simp) (by first|simp -dsimp[h1,q2,z3,↓e70,h71,q72,z73,↓e75,h76,q77,z78];done|simp_all))) ?_
    refine((CC.f9 B hB1 hB2 names x69 v80) [] 0 o'97 ho96) _ rfl _ ?_
    cases hF
    repeat first|refine cg ?_|simp -dsimp
    all_goals(try first|omega|rfl)
  ·have z73:((v67.length:Int)<2):=auz
   cases hF
   repeat first|refine cg ?_|simp -dsimp[h1,q2,z3,↓e70,h71,q72,z73]
   all_goals(try first|omega|rfl)
theorem C.f11 (c':Int)(r:Bool)(hF:F.f11 c'=some r):PureCall Tryd.prog B 70 [.lit (.int .u8 c')] (.lit (.bool r)):=by
 unfold F.f11 at hF
 refine pE Tryd.func70 (by kernel_rfl) rfl Tryd.ntmps70 (by simp) (by simp) ?_
 repeat first|refine cg ?_|simp -dsimp
 revert hF;refine aS ?_ ?_<;>intro h1 q2 hF
 ·cases hF
  repeat first|refine cg ?_|simp -dsimp[h1]
  all_goals(try first|omega|rfl)
 ·cases hF
  repeat first|refine cg ?_|simp -dsimp[h1,q2]
  all_goals(try first|omega|rfl)
theorem C.f12 (s:ByteArray)(r:Bool)(hF:F.f12 s=some r):PureCall Tryd.prog B 51 [.lit (.string s)] (.lit (.bool r)):=by
 unfold F.f12 at hF
 refine pE Tryd.func51 (by kernel_rfl) rfl Tryd.ntmps51 (by simp) (by simp) ?_
 repeat first|refine cg ?_|simp -dsimp
 revert hF;refine aS ?_ ?_<;>intro h1 q2 hF
 ·have z3:((s.size:Int)=1):=auz
  have hF:=oc hF;obtain⟨c4,hF⟩:=hF
  repeat first|refine cg ?_|simp -dsimp[h1,z3]
  have hF:=ob hF;obtain⟨v,e5,hF⟩:=hF
  refine((C.f11 B hB1 hB2 ((byteAt s 0:Nat):Int) v e5)).goW (by first|simp[h1,z3];done|simp_all) (by simp) ?_
  repeat first|refine cg ?_|simp -dsimp[h1,z3]
  revert hF;refine aS (fun h6 q7 hF=> ?_) (fun h6 q7 hF=> ?_)
  ·cases hF
   repeat first|refine cg ?_|simp -dsimp[h1,z3,h6]
   all_goals(try first|omega|rfl)
  ·cases hF
   repeat first|refine cg ?_|simp -dsimp[h1,z3,h6,q7]
   all_goals(try first|omega|rfl)
 ·have z3:¬((s.size:Int)=1):=auz
  cases hF
  repeat first|refine cg ?_|simp -dsimp[h1,q2,z3]
  all_goals(try first|omega|rfl)
theorem CC.f13 (s:ByteArray):(∀(i:Nat) (o:Lo Bool Unit),F.f13 s i=some o->∀(c:Code),Zr [1,1,0,1,0,0] (ZI Tryd.f71)=some c->∀(Q:Exit->ASt->Prop),o.post (fun r=>∀st,ZCf Tryd.prog Tryd.f71 (fun r' _=>r'.le (.lit (.bool r))) .ret st->Q .ret st) (fun s=>Q (.exit 0) ⟨[],[]⟩)->ALoopU Tryd.prog B 0 34 (hold c .mk) ⟨[(0,.lit (.string s)),(3,li (i:Int))],[]⟩ (hold Q .mk)):=by
 refine F.f13.partial_correctness s
  _
  ?_
 ·intro _f_f13 ih_f13 i o hF
  intro c hc Q hq
  obtain rfl:c=_:=ZQ hc rfl
  refine kN fun hk hs=> ?_
  clear hk hs
  refine eN ?_
  repeat first|refine cg ?_|simp -dsimp
  revert hF;refine aS ?_ ?_<;>intro h11 q12 hF
  ·have z13:((i:Int)<(s.size:Int)):=auz
   repeat first|refine cg ?_|simp -dsimp[h11,z13]
   revert hF;refine aN ?_ ?_<;>intro h14 q15 hF
   ·have z16:¬(((byteAt s i:Nat):Int)<97):=auz
    repeat first|refine cg ?_|simp -dsimp[h11,z13,h14,q15,z16]
    revert hF;refine aS ?_ ?_<;>intro h17 q18 hF
    ·have z19:(122<((byteAt s i:Nat):Int)):=auz
     cases hF
     repeat first|refine cg ?_|simp -dsimp[h11,z13,h14,q15,z16,h17,z19]
     refine lG _ (gR _) (hq _ ?_)
     repeat first|refine cg ?_|simp -dsimp[h11,z13,h14,q15,z16,h17,z19]
    ·have z19:¬(122<((byteAt s i:Nat):Int)):=auz
     have hF:=oc hF;obtain⟨c20,hF⟩:=hF
     have w21:i64.wrap ((i:Int)+1)=(i:Int)+1:=ZE (by omega) (by omega)
     repeat first|refine cg ?_|simp -dsimp[h11,z13,h14,q15,z16,h17,q18,z19,w21]
     refine aG _ ?_ ((ih_f13 (i+1) o hF) _ rfl _ hq)
     exact(gT (by simp) (by first|simp -dsimp[h11,z13,h14,q15,z16,h17,q18,z19,w21];done|simp_all))
   ·have z16:(((byteAt s i:Nat):Int)<97):=auz
    cases hF
    repeat first|refine cg ?_|simp -dsimp[h11,z13,h14,q15,z16]
    refine lG _ (gR _) (hq _ ?_)
    repeat first|refine cg ?_|simp -dsimp[h11,z13,h14,q15,z16]
  ·have z13:¬((i:Int)<(s.size:Int)):=auz
   cases hF
   repeat first|refine cg ?_|simp -dsimp[h11,q12,z13]
   refine lG _ (gT (by simp) (by first|simp -dsimp[h11,q12,z13];done|simp_all)) hq
theorem C.f14 (s:ByteArray)(r:Bool)(hF:F.f14 s=some r):PureCall Tryd.prog B 71 [.lit (.string s)] (.lit (.bool r)):=by
 unfold F.f14 at hF
 refine pE Tryd.func71 (by kernel_rfl) rfl Tryd.ntmps71 (by simp) (by simp) ?_
 repeat first|refine cg ?_|simp -dsimp
 revert hF;refine aN ?_ ?_<;>intro h1 q2 hF
 ·have z3:¬((s.size:Int)=0):=auz
  repeat first|refine cg ?_|simp -dsimp[h1,q2,z3]
  revert hF;refine aN ?_ ?_<;>intro h4 q5 hF
  ·have z6:¬(5<(s.size:Int)):=auz
   have hF:=oc hF;obtain⟨c7,hF⟩:=hF
   repeat first|refine cg ?_|simp -dsimp[h1,q2,z3,h4,q5,z6]
   have hF:=ob hF;obtain⟨v,e8,hF⟩:=hF
   refine((C.f11 B hB1 hB2 ((byteAt s 0:Nat):Int) v e8)).goW (by first|simp[h1,q2,z3,h4,q5,z6];done|simp_all) (by simp) ?_
   repeat first|refine cg ?_|simp -dsimp[h1,q2,z3,h4,q5,z6]
   revert hF;refine aN (fun h9 q10 hF=> ?_) (fun h9 q10 hF=> ?_)
   ·cases hF
    repeat first|refine cg ?_|simp -dsimp[h1,q2,z3,h4,q5,z6,h9,q10]
    all_goals(try first|omega|rfl)
   ·repeat first|refine cg ?_|simp -dsimp[h1,q2,z3,h4,q5,z6,h9,q10]
    have hF:=ob hF;obtain⟨o',ho22,hF⟩:=hF
    refine ALoop.goU _ ?_ (((CC.f13 B hB1 hB2 s) 1 o' ho22) _ rfl _ ?_)
    ·exact(gT (by simp) (by first|simp -dsimp[h1,q2,z3,h4,q5,z6,h9,q10];done|simp_all))
    rcases o' with r0|sx
    ·dsimp only at hF
     cases hF
     intro st h
     simpa using h
    ·dsimp only at hF
     cases hF
     repeat first|refine cg ?_|simp -dsimp
     all_goals(try first|omega|rfl)
  ·have z6:(5<(s.size:Int)):=auz
   cases hF
   repeat first|refine cg ?_|simp -dsimp[h1,q2,z3,h4,q5,z6]
   all_goals(try first|omega|rfl)
 ·have z3:((s.size:Int)=0):=auz
  cases hF
  repeat first|refine cg ?_|simp -dsimp[h1,q2,z3]
  all_goals(try first|omega|rfl)
theorem C.f15 (n:Int)(t:Ty)(r:Bool)(hF:F.f15 n t=some r):PureCall Tryd.prog B 54 [li n,.agg [li t.data,li t.index]] (.lit (.bool r)):=by
 unfold F.f15 at hF
 refine pE Tryd.func54 (by kernel_rfl) rfl Tryd.ntmps54 (by simp) (by simp) ?_
 repeat first|refine cg ?_|simp -dsimp
 revert hF;refine aS ?_ ?_<;>intro h1 q2 hF
 ·cases hF
  repeat first|refine cg ?_|simp -dsimp[h1]
  all_goals(try first|omega|rfl)
 ·repeat first|refine cg ?_|simp -dsimp[h1,q2]
  revert hF;refine aS ?_ ?_<;>intro h3 q4 hF
  ·repeat first|refine cg ?_|simp -dsimp[h1,q2,h3]
   revert hF;refine aS ?_ ?_<;>intro h5 q6 hF
   ·repeat first|refine cg ?_|simp -dsimp[h1,q2,h3,h5]
    revert hF;refine aS ?_ ?_<;>intro h7 q8 hF
    ·cases hF
     repeat first|refine cg ?_|simp -dsimp[h1,q2,h3,h5,h7]
     all_goals(try first|omega|rfl)
    ·cases hF
     repeat first|refine cg ?_|simp -dsimp[h1,q2,h3,h5,h7,q8]
     all_goals(try first|omega|rfl)
   ·cases hF
    repeat first|refine cg ?_|simp -dsimp[h1,q2,h3,h5,q6]
    all_goals(try first|omega|rfl)
  ·cases hF
   repeat first|refine cg ?_|simp -dsimp[h1,q2,h3,q4]
   all_goals(try first|omega|rfl)
theorem CC.f16 (n:Int)(c':Ctor):(∀(i:Nat) (o:Lo Bool Unit),F.f16 n c' i=some o->∀(c:Code),Zr [1,1,0,1,0,0] (ZI Tryd.f52)=some c->∀(Q:Exit->ASt->Prop),o.post (fun r=>∀st,ZCf Tryd.prog Tryd.f52 (fun r' _=>r'.le (.lit (.bool r))) .ret st->Q .ret st) (fun s=>Q (.exit 0) ⟨[],[]⟩)->ALoopU Tryd.prog B 0 41 (hold c .mk) ⟨[(0,li n),(3,.ptr 0 0),(5,li (i:Int))],[.cells [.lit (.string c'.name),am Ty.c c'.args,li c'.index]]⟩ (hold Q .mk)):=by
 refine F.f16.partial_correctness n c'
  _
  ?_
 ·intro _f_f16 ih_f16 i o hF
  intro c hc Q hq
  obtain rfl:c=_:=ZQ hc rfl
  refine kN fun hk hs=> ?_
  have d0:=hs 0 _ rfl
  simp -dsimp[Blk.bnd]at d0
  clear hk hs
  refine eN ?_
  repeat first|refine cg ?_|simp -dsimp
  revert hF;refine aS ?_ ?_<;>intro h11 q12 hF
  ·have z13:((i:Int)<(c'.args.length:Int)):=auz
   have hF:=ob hF;obtain⟨x,e14,hF⟩:=hF
   have le14:=ZD e14
   repeat first|refine cg ?_|simp -dsimp[h11,z13,↓e14]
   have hF:=ob hF;obtain⟨v15,e16,hF⟩:=hF
   refine((C.f15 B hB1 hB2 n x v15 e16)).goW (by first|simp[h11,z13,↓e14];done|simp_all) (by simp) ?_
   repeat first|refine cg ?_|simp -dsimp[h11,z13,↓e14]
   revert hF;refine aN (fun h17 q18 hF=> ?_) (fun h17 q18 hF=> ?_)
   ·cases hF
    repeat first|refine cg ?_|simp -dsimp[h11,z13,↓e14,h17,q18]
    refine lG _ (gR _) (hq _ ?_)
    repeat first|refine cg ?_|simp -dsimp[h11,z13,↓e14,h17,q18]
   ·have w19:i64.wrap ((i:Int)+1)=(i:Int)+1:=ZE (by omega) (by omega)
    repeat first|refine cg ?_|simp -dsimp[h11,z13,↓e14,h17,q18,w19]
    refine aG _ ?_ ((ih_f16 (i+1) o hF) _ rfl _ hq)
    exact(gT (by simp) (by first|simp -dsimp[h11,z13,↓e14,h17,q18,w19];done|simp_all))
  ·have z13:¬((i:Int)<(c'.args.length:Int)):=auz
   cases hF
   repeat first|refine cg ?_|simp -dsimp[h11,q12,z13]
   refine lG _ (gT (by simp) (by first|simp -dsimp[h11,q12,z13];done|simp_all)) hq
theorem C.f17 (n:Int)(c':Ctor)(r:Bool)(hF:F.f17 n c'=some r):PureCall Tryd.prog B 52 [li n,.agg [.lit (.string c'.name),am Ty.c c'.args,li c'.index]] (.lit (.bool r)):=by
 unfold F.f17 at hF
 refine pE Tryd.func52 (by kernel_rfl) rfl Tryd.ntmps52 (by simp) (by simp) ?_
 repeat first|refine cg ?_|simp -dsimp
 have hF:=ob hF;obtain⟨v,e1,hF⟩:=hF
 refine((C.f14 B hB1 hB2 c'.name v e1)).goW (by simp) (by simp) ?_
 repeat first|refine cg ?_|simp -dsimp
 revert hF;refine aS (fun h2 q3 hF=> ?_) (fun h2 q3 hF=> ?_)
 ·repeat first|refine cg ?_|simp -dsimp[h2]
  revert hF;refine aN ?_ ?_<;>intro h4 q5 hF
  ·have z6:¬(3<(c'.args.length:Int)):=auz
   repeat first|refine cg ?_|simp -dsimp[h2,h4,q5,z6]
   revert hF;refine aN ?_ ?_<;>intro h7 q8 hF
   ·repeat first|refine cg ?_|simp -dsimp[h2,h4,q5,z6,h7,q8]
    revert hF;refine aS ?_ ?_<;>intro h9 q10 hF
    ·cases hF
     repeat first|refine cg ?_|simp -dsimp[h2,h4,q5,z6,h7,q8,h9]
     all_goals(try first|omega|rfl)
    ·repeat first|refine cg ?_|simp -dsimp[h2,h4,q5,z6,h7,q8,h9,q10]
     have hF:=ob hF;obtain⟨o',ho20,hF⟩:=hF
     refine ALoop.goU _ ?_ (((CC.f16 B hB1 hB2 n c') 0 o' ho20) _ rfl _ ?_)
     ·exact(gT (by simp) (by first|simp -dsimp[h2,h4,q5,z6,h7,q8,h9,q10];done|simp_all))
     rcases o' with r0|sx
     ·dsimp only at hF
      cases hF
      intro st h
      simpa using h
     ·dsimp only at hF
      cases hF
      repeat first|refine cg ?_|simp -dsimp
      all_goals(try first|omega|rfl)
   ·cases hF
    repeat first|refine cg ?_|simp -dsimp[h2,h4,q5,z6,h7,q8]
    all_goals(try first|omega|rfl)
  ·have z6:(3<(c'.args.length:Int)):=auz
   cases hF
   repeat first|refine cg ?_|simp -dsimp[h2,h4,q5,z6]
   all_goals(try first|omega|rfl)
 ·cases hF
  repeat first|refine cg ?_|simp -dsimp[h2,q3]
  all_goals(try first|omega|rfl)
theorem CC.f18 (w:List Vl.Data)(d:Int)(k:Int)(i:Nat):(∀(j:Nat) (o:Lo Bool Unit),F.f18 w d k i j=some o->∀(c:Code),Zr [1,0,1,0,0,1,0,0,1,1,0,0] (ZI Tryd.f53)=some c->∀(Q:Exit->ASt->Prop),o.post (fun r=>∀st,ZCf Tryd.prog Tryd.f53 (fun r' _=>r'.le (.lit (.bool r))) .ret st->Q .ret st) (fun s=>Q (.exit 2) ⟨[(0,am Vl.Data.c w),(1,li d),(2,li k),(7,li (i:Int))],[]⟩)->ALoopU Tryd.prog B 0 79 (hold c .mk) ⟨[(0,am Vl.Data.c w),(1,li d),(2,li k),(7,li (i:Int)),(8,li (j:Int))],[]⟩ (hold Q .mk)):=by
 refine F.f18.partial_correctness w d k i
  _
  ?_
 ·intro _f_f18 ih_f18 j o hF
  intro c hc Q hq
  obtain rfl:c=_:=ZQ hc rfl
  refine kN fun hk hs=> ?_
  have b0:=hk 0
  simp -dsimp at b0
  clear hk hs
  refine eN ?_
  have hF:=ob hF;obtain⟨x10,e11,hF⟩:=hF
  have le11:=ZD e11
  repeat first|refine cg ?_|simp -dsimp[↓e11]
  revert hF;refine aS ?_ ?_<;>intro h12 q13 hF
  ·have z14:((j:Int)<(x10.ctors.length:Int)):=auz
   repeat first|refine cg ?_|simp -dsimp[↓e11,h12,z14]
   revert hF;refine aN ?_ ?_<;>intro h15 q16 hF
   ·repeat first|refine cg ?_|simp -dsimp[↓e11,h12,z14,h15,q16]
    revert hF;refine aS ?_ ?_<;>intro h17 q18 hF
    ·repeat first|refine cg ?_|simp -dsimp[↓e11,h12,z14,h15,q16,h17]
     refine ADraw.simple follows (by kernel_rfl) (by kernel_rfl) ?_
     have hF:=ob hF;obtain⟨x19,e20a,hF⟩:=hF
     have e20a:=ZZ e20a;obtain⟨ne20,e20⟩:=e20a
     have le20:=ZD e20
     repeat first|refine cg ?_|simp -dsimp[↓e11,h12,z14,h15,q16,h17,↓e20]
     revert hF;refine aS ?_ ?_<;>intro h21 q22 hF
     ·have hF:=ob hF;obtain⟨x23,e24,hF⟩:=hF
      have le24:=ZD e24
      have hF:=ob hF;obtain⟨x25,e26a,hF⟩:=hF
      have e26a:=ZZ e26a;obtain⟨ne26,e26⟩:=e26a
      have le26:=ZD e26
      repeat first|refine cg ?_|simp -dsimp[↓e11,h12,z14,h15,q16,h17,↓e20,h21,↓e24,↓e26]
      revert hF;refine aS ?_ ?_<;>intro h27 q28 hF
      ·cases hF
       repeat first|refine cg ?_|simp -dsimp[↓e11,h12,z14,h15,q16,h17,↓e20,h21,↓e24,↓e26,h27]
       refine lG _ (gR _) (hq _ ?_)
       repeat first|refine cg ?_|simp -dsimp[↓e11,h12,z14,h15,q16,h17,↓e20,h21,↓e24,↓e26,h27]
      ·have hF:=oc hF;obtain⟨c29,hF⟩:=hF
       have w30:i64.wrap ((j:Int)+1)=(j:Int)+1:=ZE (by omega) (by omega)
       repeat first|refine cg ?_|simp -dsimp[↓e11,h12,z14,h15,q16,h17,↓e20,h21,↓e24,↓e26,h27,q28,w30]
       refine aG _ ?_ ((ih_f18 (j+1) o hF) _ rfl _ hq)
       exact(gT (by simp) (by first|simp -dsimp[↓e11,h12,z14,h15,q16,h17,↓e20,h21,↓e24,↓e26,h27,q28,w30];done|simp_all))
     ·have hF:=oc hF;obtain⟨c31,hF⟩:=hF
      have w32:i64.wrap ((j:Int)+1)=(j:Int)+1:=ZE (by omega) (by omega)
      repeat first|refine cg ?_|simp -dsimp[↓e11,h12,z14,h15,q16,h17,↓e20,h21,q22,w32]
      refine aG _ ?_ ((ih_f18 (j+1) o hF) _ rfl _ hq)
      exact(gT (by simp) (by first|simp -dsimp[↓e11,h12,z14,h15,q16,h17,↓e20,h21,q22,w32];done|simp_all))
    ·cases hF
     repeat first|refine cg ?_|simp -dsimp[↓e11,h12,z14,h15,q16,h17,q18]
     refine lG _ (gT (by simp) (by first|simp -dsimp[↓e11,h12,z14,h15,q16,h17,q18];done|simp_all)) hq
   ·repeat first|refine cg ?_|simp -dsimp[↓e11,h12,z14,h15,q16]
    refine ADraw.simple follows (by kernel_rfl) (by kernel_rfl) ?_
    have hF:=ob hF;obtain⟨x33,e34a,hF⟩:=hF
    have e34a:=ZZ e34a;obtain⟨ne34,e34⟩:=e34a
    have le34:=ZD e34
    repeat first|refine cg ?_|simp -dsimp[↓e11,h12,z14,h15,q16,↓e34]
    revert hF;refine aS ?_ ?_<;>intro h35 q36 hF
    ·have hF:=ob hF;obtain⟨x37,e38,hF⟩:=hF
     have le38:=ZD e38
     have hF:=ob hF;obtain⟨x39,e40a,hF⟩:=hF
     have e40a:=ZZ e40a;obtain⟨ne40,e40⟩:=e40a
     have le40:=ZD e40
     repeat first|refine cg ?_|simp -dsimp[↓e11,h12,z14,h15,q16,↓e34,h35,↓e38,↓e40]
     revert hF;refine aS ?_ ?_<;>intro h41 q42 hF
     ·cases hF
      repeat first|refine cg ?_|simp -dsimp[↓e11,h12,z14,h15,q16,↓e34,h35,↓e38,↓e40,h41]
      refine lG _ (gR _) (hq _ ?_)
      repeat first|refine cg ?_|simp -dsimp[↓e11,h12,z14,h15,q16,↓e34,h35,↓e38,↓e40,h41]
     ·have hF:=oc hF;obtain⟨c43,hF⟩:=hF
      have w44:i64.wrap ((j:Int)+1)=(j:Int)+1:=ZE (by omega) (by omega)
      repeat first|refine cg ?_|simp -dsimp[↓e11,h12,z14,h15,q16,↓e34,h35,↓e38,↓e40,h41,q42,w44]
      refine aG _ ?_ ((ih_f18 (j+1) o hF) _ rfl _ hq)
      exact(gT (by simp) (by first|simp -dsimp[↓e11,h12,z14,h15,q16,↓e34,h35,↓e38,↓e40,h41,q42,w44];done|simp_all))
    ·have hF:=oc hF;obtain⟨c45,hF⟩:=hF
     have w46:i64.wrap ((j:Int)+1)=(j:Int)+1:=ZE (by omega) (by omega)
     repeat first|refine cg ?_|simp -dsimp[↓e11,h12,z14,h15,q16,↓e34,h35,q36,w46]
     refine aG _ ?_ ((ih_f18 (j+1) o hF) _ rfl _ hq)
     exact(gT (by simp) (by first|simp -dsimp[↓e11,h12,z14,h15,q16,↓e34,h35,q36,w46];done|simp_all))
  ·have z14:¬((j:Int)<(x10.ctors.length:Int)):=auz
   cases hF
   repeat first|refine cg ?_|simp -dsimp[↓e11,h12,q13,z14]
   refine lG _ (gT (by simp) (by first|simp -dsimp[↓e11,h12,q13,z14];done|simp_all)) hq
theorem CC.f19 (w:List Vl.Data)(d:Int)(k:Int)(i:Nat):(∀(j50:Nat) (o:Lo Bool Unit),F.f19 w d k i j50=some o->∀(c:Code),Zr [1,0,1,0,0,1,0,0,1,1,0,0] (ZI Tryd.f53)=some c->∀(Q:Exit->ASt->Prop),o.post (fun r=>∀st,ZCf Tryd.prog Tryd.f53 (fun r' _=>r'.le (.lit (.bool r))) .ret st->Q .ret st) (fun s=>Q (.exit 2) ⟨[(0,am Vl.Data.c w),(1,li d),(2,li k),(7,li (i:Int))],[]⟩)->ALoopU Tryd.prog B 0 79 (hold c .mk) ⟨[(0,am Vl.Data.c w),(1,li d),(2,li k),(7,li (i:Int)),(8,li (j50:Int))],[]⟩ (hold Q .mk)):=by
 refine F.f19.partial_correctness w d k i
  _
  ?_
 ·intro _f_f19 ih_f19 j50 o hF
  intro c hc Q hq
  obtain rfl:c=_:=ZQ hc rfl
  refine kN fun hk hs=> ?_
  have b0:=hk 0
  simp -dsimp at b0
  clear hk hs
  refine eN ?_
  have hF:=ob hF;obtain⟨x51,e52,hF⟩:=hF
  have le52:=ZD e52
  repeat first|refine cg ?_|simp -dsimp[↓e52]
  revert hF;refine aS ?_ ?_<;>intro h53 q54 hF
  ·have z55:((j50:Int)<(x51.ctors.length:Int)):=auz
   repeat first|refine cg ?_|simp -dsimp[↓e52,h53,z55]
   revert hF;refine aN ?_ ?_<;>intro h56 q57 hF
   ·repeat first|refine cg ?_|simp -dsimp[↓e52,h53,z55,h56,q57]
    revert hF;refine aS ?_ ?_<;>intro h58 q59 hF
    ·repeat first|refine cg ?_|simp -dsimp[↓e52,h53,z55,h56,q57,h58]
     refine ADraw.simple follows (by kernel_rfl) (by kernel_rfl) ?_
     have hF:=ob hF;obtain⟨x60,e61a,hF⟩:=hF
     have e61a:=ZZ e61a;obtain⟨ne61,e61⟩:=e61a
     have le61:=ZD e61
     repeat first|refine cg ?_|simp -dsimp[↓e52,h53,z55,h56,q57,h58,↓e61]
     revert hF;refine aS ?_ ?_<;>intro h62 q63 hF
     ·have hF:=ob hF;obtain⟨x64,e65,hF⟩:=hF
      have le65:=ZD e65
      have hF:=ob hF;obtain⟨x66,e67a,hF⟩:=hF
      have e67a:=ZZ e67a;obtain⟨ne67,e67⟩:=e67a
      have le67:=ZD e67
      repeat first|refine cg ?_|simp -dsimp[↓e52,h53,z55,h56,q57,h58,↓e61,h62,↓e65,↓e67]
      revert hF;refine aS ?_ ?_<;>intro h68 q69 hF
      ·cases hF
       repeat first|refine cg ?_|simp -dsimp[↓e52,h53,z55,h56,q57,h58,↓e61,h62,↓e65,↓e67,h68]
       refine lG _ (gR _) (hq _ ?_)
       repeat first|refine cg ?_|simp -dsimp[↓e52,h53,z55,h56,q57,h58,↓e61,h62,↓e65,↓e67,h68]
      ·have hF:=oc hF;obtain⟨c70,hF⟩:=hF
       have w71:i64.wrap ((j50:Int)+1)=(j50:Int)+1:=ZE (by omega) (by omega)
       repeat first|refine cg ?_|simp -dsimp[↓e52,h53,z55,h56,q57,h58,↓e61,h62,↓e65,↓e67,h68,q69,w71]
       refine aG _ ?_ ((ih_f19 (j50+1) o hF) _ rfl _ hq)
       exact(gT (by simp) (by first|simp -dsimp[↓e52,h53,z55,h56,q57,h58,↓e61,h62,↓e65,↓e67,h68,q69,w71];done|simp_all))
     ·have hF:=oc hF;obtain⟨c72,hF⟩:=hF
      have w73:i64.wrap ((j50:Int)+1)=(j50:Int)+1:=ZE (by omega) (by omega)
      repeat first|refine cg ?_|simp -dsimp[↓e52,h53,z55,h56,q57,h58,↓e61,h62,q63,w73]
      refine aG _ ?_ ((ih_f19 (j50+1) o hF) _ rfl _ hq)
      exact(gT (by simp) (by first|simp -dsimp[↓e52,h53,z55,h56,q57,h58,↓e61,h62,q63,w73];done|simp_all))
    ·cases hF
     repeat first|refine cg ?_|simp -dsimp[↓e52,h53,z55,h56,q57,h58,q59]
     refine lG _ (gT (by simp) (by first|simp -dsimp[↓e52,h53,z55,h56,q57,h58,q59];done|simp_all)) hq
   ·repeat first|refine cg ?_|simp -dsimp[↓e52,h53,z55,h56,q57]
    refine ADraw.simple follows (by kernel_rfl) (by kernel_rfl) ?_
    have hF:=ob hF;obtain⟨x74,e75a,hF⟩:=hF
    have e75a:=ZZ e75a;obtain⟨ne75,e75⟩:=e75a
    have le75:=ZD e75
    repeat first|refine cg ?_|simp -dsimp[↓e52,h53,z55,h56,q57,↓e75]
    revert hF;refine aS ?_ ?_<;>intro h76 q77 hF
    ·have hF:=ob hF;obtain⟨x78,e79,hF⟩:=hF
     have le79:=ZD e79
     have hF:=ob hF;obtain⟨x80,e81a,hF⟩:=hF
     have e81a:=ZZ e81a;obtain⟨ne81,e81⟩:=e81a
     have le81:=ZD e81
     repeat first|refine cg ?_|simp -dsimp[↓e52,h53,z55,h56,q57,↓e75,h76,↓e79,↓e81]
     revert hF;refine aS ?_ ?_<;>intro h82 q83 hF
     ·cases hF
      repeat first|refine cg ?_|simp -dsimp[↓e52,h53,z55,h56,q57,↓e75,h76,↓e79,↓e81,h82]
      refine lG _ (gR _) (hq _ ?_)
      repeat first|refine cg ?_|simp -dsimp[↓e52,h53,z55,h56,q57,↓e75,h76,↓e79,↓e81,h82]
     ·have hF:=oc hF;obtain⟨c84,hF⟩:=hF
      have w85:i64.wrap ((j50:Int)+1)=(j50:Int)+1:=ZE (by omega) (by omega)
      repeat first|refine cg ?_|simp -dsimp[↓e52,h53,z55,h56,q57,↓e75,h76,↓e79,↓e81,h82,q83,w85]
      refine aG _ ?_ ((ih_f19 (j50+1) o hF) _ rfl _ hq)
      exact(gT (by simp) (by first|simp -dsimp[↓e52,h53,z55,h56,q57,↓e75,h76,↓e79,↓e81,h82,q83,w85];done|simp_all))
    ·have hF:=oc hF;obtain⟨c86,hF⟩:=hF
     have w87:i64.wrap ((j50:Int)+1)=(j50:Int)+1:=ZE (by omega) (by omega)
     repeat first|refine cg ?_|simp -dsimp[↓e52,h53,z55,h56,q57,↓e75,h76,q77,w87]
     refine aG _ ?_ ((ih_f19 (j50+1) o hF) _ rfl _ hq)
     exact(gT (by simp) (by first|simp -dsimp[↓e52,h53,z55,h56,q57,↓e75,h76,q77,w87];done|simp_all))
  ·have z55:¬((j50:Int)<(x51.ctors.length:Int)):=auz
   cases hF
   repeat first|refine cg ?_|simp -dsimp[↓e52,h53,q54,z55]
   refine lG _ (gT (by simp) (by first|simp -dsimp[↓e52,h53,q54,z55];done|simp_all)) hq
theorem CC.f20 (w:List Vl.Data)(d:Int)(k:Int):(∀(i:Nat) (o:Lo Bool Unit),F.f20 w d k i=some o->∀(c:Code),Zr [1,0,1,0,0] (ZI Tryd.f53)=some c->∀(Q:Exit->ASt->Prop),o.post (fun r=>∀st,ZCf Tryd.prog Tryd.f53 (fun r' _=>r'.le (.lit (.bool r))) .ret st->Q .ret st) (fun s=>Q (.exit 0) ⟨[],[]⟩)->ALoopU Tryd.prog B 0 79 (hold c .mk) ⟨[(0,am Vl.Data.c w),(1,li d),(2,li k),(7,li (i:Int))],[]⟩ (hold Q .mk)):=by
 refine F.f20.partial_correctness w d k
  _
  ?_
 ·intro _f_f20 ih_f20 i o hF
  intro c hc Q hq
  obtain rfl:c=_:=ZQ hc rfl
  refine kN fun hk hs=> ?_
  have b0:=hk 0
  simp -dsimp at b0
  clear hk hs
  refine eN ?_
  repeat first|refine cg ?_|simp -dsimp
  revert hF;refine aS ?_ ?_<;>intro h1 q2 hF
  ·repeat first|refine cg ?_|simp -dsimp[h1]
   refine ADraw.simple follows (by kernel_rfl) (by kernel_rfl) ?_
   repeat first|refine cg ?_|simp -dsimp[h1]
   revert hF;refine aS ?_ ?_<;>intro h3 q4 hF
   ·have hF:=ob hF;obtain⟨x,e5,hF⟩:=hF
    have le5:=ZD e5
    have hF:=ob hF;obtain⟨x6,e7a,hF⟩:=hF
    have e7a:=ZZ e7a;obtain⟨ne7,e7⟩:=e7a
    have le7:=ZD e7
    repeat first|refine cg ?_|simp -dsimp[h1,h3,↓e5,↓e7]
    revert hF;refine aS ?_ ?_<;>intro h8 q9 hF
    ·cases hF
     repeat first|refine cg ?_|simp -dsimp[h1,h3,↓e5,↓e7,h8]
     refine lG _ (gR _) (hq _ ?_)
     repeat first|refine cg ?_|simp -dsimp[h1,h3,↓e5,↓e7,h8]
    ·repeat first|refine cg ?_|simp -dsimp[h1,h3,↓e5,↓e7,h8,q9]
     have hF:=ob hF;obtain⟨o',ho47,hF⟩:=hF
     refine ALoop.goU _ ?_ (((CC.f18 B hB1 hB2 w d k i) 0 o' ho47) _ rfl _ ?_)
     ·exact(gT (by simp) (by first|simp -dsimp[h1,h3,↓e5,↓e7,h8,q9];done|simp_all))
     rcases o' with r0|sx
     ·dsimp only at hF
      cases hF
      intro st h
      simp -dsimp
      refine lG st (gR _) (hq st h)
     ·dsimp only at hF
      have hF:=oc hF;obtain⟨c48,hF⟩:=hF
      have w49:i64.wrap ((i:Int)+1)=(i:Int)+1:=ZE (by omega) (by omega)
      repeat first|refine cg ?_|simp -dsimp[w49]
      refine aG _ ?_ ((ih_f20 (i+1) o hF) _ rfl _ hq)
      exact(gT (by simp) (by first|simp -dsimp[w49];done|simp_all))
   ·repeat first|refine cg ?_|simp -dsimp[h1,h3,q4]
    have hF:=ob hF;obtain⟨o'89,ho88,hF⟩:=hF
    refine ALoop.goU _ ?_ (((CC.f19 B hB1 hB2 w d k i) 0 o'89 ho88) _ rfl _ ?_)
    ·exact(gT (by simp) (by first|simp -dsimp[h1,h3,q4];done|simp_all))
    rcases o'89 with r093|sx90
    ·dsimp only at hF
     cases hF
     intro st h
     simp -dsimp
     refine lG st (gR _) (hq st h)
    ·dsimp only at hF
     have hF:=oc hF;obtain⟨c91,hF⟩:=hF
     have w92:i64.wrap ((i:Int)+1)=(i:Int)+1:=ZE (by omega) (by omega)
     repeat first|refine cg ?_|simp -dsimp[w92]
     refine aG _ ?_ ((ih_f20 (i+1) o hF) _ rfl _ hq)
     exact(gT (by simp) (by first|simp -dsimp[w92];done|simp_all))
  ·cases hF
   repeat first|refine cg ?_|simp -dsimp[h1,q2]
   refine lG _ (gT (by simp) (by first|simp -dsimp[h1,q2];done|simp_all)) hq
theorem C.f21 (w:List Vl.Data)(d:Int)(k:Int)(r:Bool)(hF:F.f21 w d k=some r):PureCall Tryd.prog B 53 [am Vl.Data.c w,li d,li k] (.lit (.bool r)):=by
 unfold F.f21 at hF
 refine pE Tryd.func53 (by kernel_rfl) rfl Tryd.ntmps53 (by simp) (by simp) ?_
 repeat first|refine cg ?_|simp -dsimp
 have hF:=ob hF;obtain⟨o'95,ho94,hF⟩:=hF
 refine ALoop.goU _ ?_ (((CC.f20 B hB1 hB2 w d k) 0 o'95 ho94) _ rfl _ ?_)
 ·exact(gT (by simp) (by simp -dsimp))
 rcases o'95 with r097|sx96
 ·dsimp only at hF
  cases hF
  intro st h
  simpa using h
 ·dsimp only at hF
  cases hF
  repeat first|refine cg ?_|simp -dsimp
  all_goals(try first|omega|rfl)
theorem CC.f22 (w:List Vl.Data)(d:Nat):(∀(k:Nat) (o:Lo Bool Unit),F.f22 w d k=some o->∀(c:Code),Zr [1,1,0,1,0,0,1,0,0,1,1,0,0] (ZI Tryd.f37)=some c->∀(Q:Exit->ASt->Prop),o.post (fun r=>∀st,ZCf Tryd.prog Tryd.f37 (fun r' _=>r'.le (.lit (.bool r))) .ret st->Q .ret st) (fun s=>Q (.exit 2) ⟨[(0,am Vl.Data.c w),(3,li (d:Int))],[]⟩)->ALoopU Tryd.prog B 0 67 (hold c .mk) ⟨[(0,am Vl.Data.c w),(3,li (d:Int)),(4,li (k:Int))],[]⟩ (hold Q .mk)):=by
 refine F.f22.partial_correctness w d
  _
  ?_
 ·intro _f_f22 ih_f22 k o hF
  intro c hc Q hq
  obtain rfl:c=_:=ZQ hc rfl
  refine kN fun hk hs=> ?_
  have b0:=hk 0
  simp -dsimp at b0
  clear hk hs
  refine eN ?_
  have hF:=ob hF;obtain⟨x17,e18,hF⟩:=hF
  have le18:=ZD e18
  repeat first|refine cg ?_|simp -dsimp[↓e18]
  revert hF;refine aS ?_ ?_<;>intro h19 q20 hF
  ·have z21:((k:Int)<(x17.ctors.length:Int)):=auz
   have hF:=ob hF;obtain⟨x22,e23,hF⟩:=hF
   have le23:=ZD e23
   repeat first|refine cg ?_|simp -dsimp[↓e18,h19,z21,↓e23]
   have hF:=ob hF;obtain⟨v24,e25,hF⟩:=hF
   refine((C.f17 B hB1 hB2 (w.length:Int) x22 v24 e25)).goW (by first|simp[↓e18,h19,z21,↓e23];done|simp_all) (by simp) ?_
   repeat first|refine cg ?_|simp -dsimp[↓e18,h19,z21,↓e23]
   revert hF;refine aS (fun h26 q27 hF=> ?_) (fun h26 q27 hF=> ?_)
   ·repeat first|refine cg ?_|simp -dsimp[↓e18,h19,z21,↓e23,h26]
    have hF:=ob hF;obtain⟨v28,e29,hF⟩:=hF
    refine((C.f21 B hB1 hB2 w (d:Int) (k:Int) v28 e29)).goW (by first|simp[↓e18,h19,z21,↓e23,h26];done|simp_all) (by simp) ?_
    repeat first|refine cg ?_|simp -dsimp[↓e18,h19,z21,↓e23,h26]
    revert hF;refine aS (fun h30 q31 hF=> ?_) (fun h30 q31 hF=> ?_)
    ·cases hF
     repeat first|refine cg ?_|simp -dsimp[↓e18,h19,z21,↓e23,h26,h30]
     refine lG _ (gR _) (hq _ ?_)
     repeat first|refine cg ?_|simp -dsimp[↓e18,h19,z21,↓e23,h26,h30]
    ·have hF:=oc hF;obtain⟨c32,hF⟩:=hF
     have w33:i64.wrap ((k:Int)+1)=(k:Int)+1:=ZE (by omega) (by omega)
     repeat first|refine cg ?_|simp -dsimp[↓e18,h19,z21,↓e23,h26,h30,q31,w33]
     refine aG _ ?_ ((ih_f22 (k+1) o hF) _ rfl _ hq)
     exact(gT (by simp) (by first|simp -dsimp[↓e18,h19,z21,↓e23,h26,h30,q31,w33];done|simp_all))
   ·cases hF
    repeat first|refine cg ?_|simp -dsimp[↓e18,h19,z21,↓e23,h26,q27]
    refine lG _ (gR _) (hq _ ?_)
    repeat first|refine cg ?_|simp -dsimp[↓e18,h19,z21,↓e23,h26,q27]
  ·have z21:¬((k:Int)<(x17.ctors.length:Int)):=auz
   cases hF
   repeat first|refine cg ?_|simp -dsimp[↓e18,h19,q20,z21]
   refine lG _ (gT (by simp) (by first|simp -dsimp[↓e18,h19,q20,z21];done|simp_all)) hq
theorem CC.f23 (w:List Vl.Data):(∀(d:Nat) (o:Lo Bool Unit),F.f23 w d=some o->∀(c:Code),Zr [1,1,0,1,0,0] (ZI Tryd.f37)=some c->∀(Q:Exit->ASt->Prop),o.post (fun r=>∀st,ZCf Tryd.prog Tryd.f37 (fun r' _=>r'.le (.lit (.bool r))) .ret st->Q .ret st) (fun s=>Q (.exit 0) ⟨[],[]⟩)->ALoopU Tryd.prog B 0 67 (hold c .mk) ⟨[(0,am Vl.Data.c w),(3,li (d:Int))],[]⟩ (hold Q .mk)):=by
 refine F.f23.partial_correctness w
  _
  ?_
 ·intro _f_f23 ih_f23 d o hF
  intro c hc Q hq
  obtain rfl:c=_:=ZQ hc rfl
  refine kN fun hk hs=> ?_
  have b0:=hk 0
  simp -dsimp at b0
  clear hk hs
  refine eN ?_
  repeat first|refine cg ?_|simp -dsimp
  revert hF;refine aS ?_ ?_<;>intro h4 q5 hF
  ·have z6:((d:Int)<(w.length:Int)):=auz
   have hF:=ob hF;obtain⟨x,e7,hF⟩:=hF
   have le7:=ZD e7
   repeat first|refine cg ?_|simp -dsimp[h4,z6,↓e7]
   have hF:=ob hF;obtain⟨v,e8,hF⟩:=hF
   refine((C.f12 B hB1 hB2 x.name v e8)).goW (by first|simp[h4,z6,↓e7];done|simp_all) (by simp) ?_
   repeat first|refine cg ?_|simp -dsimp[h4,z6,↓e7]
   revert hF;refine aS (fun h9 q10 hF=> ?_) (fun h9 q10 hF=> ?_)
   ·repeat first|refine cg ?_|simp -dsimp[h4,z6,↓e7,h9]
    revert hF;refine aN ?_ ?_<;>intro h11 q12 hF
    ·have z13:¬((x.ctors.length:Int)=0):=auz
     repeat first|refine cg ?_|simp -dsimp[h4,z6,↓e7,h9,h11,q12,z13]
     revert hF;refine aS ?_ ?_<;>intro h14 q15 hF
     ·have z16:(4<(x.ctors.length:Int)):=auz
      cases hF
      repeat first|refine cg ?_|simp -dsimp[h4,z6,↓e7,h9,h11,q12,z13,h14,z16]
      refine lG _ (gR _) (hq _ ?_)
      repeat first|refine cg ?_|simp -dsimp[h4,z6,↓e7,h9,h11,q12,z13,h14,z16]
     ·have z16:¬(4<(x.ctors.length:Int)):=auz
      repeat first|refine cg ?_|simp -dsimp[h4,z6,↓e7,h9,h11,q12,z13,h14,q15,z16]
      have hF:=ob hF;obtain⟨o',ho34,hF⟩:=hF
      refine ALoop.goU _ ?_ (((CC.f22 B hB1 hB2 w d) 0 o' ho34) _ rfl _ ?_)
      ·exact(gT (by simp) (by first|simp -dsimp[h4,z6,↓e7,h9,h11,q12,z13,h14,q15,z16];done|simp_all))
      rcases o' with r0|sx
      ·dsimp only at hF
       cases hF
       intro st h
       simp -dsimp
       refine lG st (gR _) (hq st h)
      ·dsimp only at hF
       have hF:=oc hF;obtain⟨c35,hF⟩:=hF
       have w36:i64.wrap ((d:Int)+1)=(d:Int)+1:=ZE (by omega) (by omega)
       repeat first|refine cg ?_|simp -dsimp[w36]
       refine aG _ ?_ ((ih_f23 (d+1) o hF) _ rfl _ hq)
       exact(gT (by simp) (by first|simp -dsimp[w36];done|simp_all))
    ·have z13:((x.ctors.length:Int)=0):=auz
     cases hF
     repeat first|refine cg ?_|simp -dsimp[h4,z6,↓e7,h9,h11,q12,z13]
     refine lG _ (gR _) (hq _ ?_)
     repeat first|refine cg ?_|simp -dsimp[h4,z6,↓e7,h9,h11,q12,z13]
   ·cases hF
    repeat first|refine cg ?_|simp -dsimp[h4,z6,↓e7,h9,q10]
    refine lG _ (gR _) (hq _ ?_)
    repeat first|refine cg ?_|simp -dsimp[h4,z6,↓e7,h9,q10]
  ·have z6:¬((d:Int)<(w.length:Int)):=auz
   cases hF
   repeat first|refine cg ?_|simp -dsimp[h4,q5,z6]
   refine lG _ (gT (by simp) (by first|simp -dsimp[h4,q5,z6];done|simp_all)) hq
theorem C.f24 (w:List Vl.Data)(r:Bool)(hF:F.f24 w=some r):PureCall Tryd.prog B 37 [am Vl.Data.c w] (.lit (.bool r)):=by
 unfold F.f24 at hF
 refine pE Tryd.func37 (by kernel_rfl) rfl Tryd.ntmps37 (by simp) (by simp) ?_
 repeat first|refine cg ?_|simp -dsimp
 revert hF;refine aS ?_ ?_<;>intro h1 q2 hF
 ·have z3:(4<(w.length:Int)):=auz
  cases hF
  repeat first|refine cg ?_|simp -dsimp[h1,z3]
  all_goals(try first|omega|rfl)
 ·have z3:¬(4<(w.length:Int)):=auz
  repeat first|refine cg ?_|simp -dsimp[h1,q2,z3]
  have hF:=ob hF;obtain⟨o'38,ho37,hF⟩:=hF
  refine ALoop.goU _ ?_ (((CC.f23 B hB1 hB2 w) 0 o'38 ho37) _ rfl _ ?_)
  ·exact(gT (by simp) (by first|simp -dsimp[h1,q2,z3];done|simp_all))
  rcases o'38 with r040|sx39
  ·dsimp only at hF
   cases hF
   intro st h
   simpa using h
  ·dsimp only at hF
   cases hF
   repeat first|refine cg ?_|simp -dsimp
   all_goals(try first|omega|rfl)
theorem CC.f25  :(∀(n7:Int) (out:ByteArray) (o:Int×ByteArray),F.f25 n7 out=some o->∀(c:Code),Zr [1,1,1,1,0,0,0] (ZI Tryd.f33)=some c->∀(Q:Exit->ASt->Prop),(Q (.exit 0) ⟨[(0,li o.1),(3,.lit (.string o.2))],[]⟩)->ALoopU Tryd.prog B 0 31 (hold c .mk) ⟨[(0,li n7),(3,.lit (.string out))],[]⟩ (hold Q .mk)):=by
 refine F.f25.partial_correctness 
  _
  ?_
 ·intro _f_f25 ih_f25 n7 out o hF
  intro c hc Q hq
  obtain rfl:c=_:=ZQ hc rfl
  refine kN fun hk hs=> ?_
  clear hk hs
  refine eN ?_
  repeat first|refine cg ?_|simp -dsimp
  revert hF;refine aS ?_ ?_<;>intro h8 q9 hF
  ·have hF:=oc hF;obtain⟨c10,hF⟩:=hF
   repeat first|refine cg ?_|simp -dsimp[h8]
   refine aG _ ?_ ((ih_f25 (i64.wrap (n7.tdiv 10)) ((ZDB [IntKind.u8.wrap (i64.wrap (48+n7.tmod 10))])++out) o hF) _ rfl _ hq)
   exact(gT (by simp) (by first|simp -dsimp[h8];done|simp_all))
  ·cases hF
   repeat first|refine cg ?_|simp -dsimp[h8,q9]
   refine lG _ (gT (by simp) (by first|simp -dsimp[h8,q9];done|simp_all)) hq
theorem CC.f26  :(∀(n:Int) (r:ByteArray),F.f26 n=some r->PureCall Tryd.prog B 33 [li n] (.lit (.string r))):=by
 refine F.f26.partial_correctness 
  _
  ?_
 ·intro _f_f26 ih_f26 n r hF
  refine pE Tryd.func33 (by kernel_rfl) rfl Tryd.ntmps33 (by simp) (by simp) ?_
  repeat first|refine cg ?_|simp -dsimp
  revert hF;refine aS ?_ ?_<;>intro h1 q2 hF
  ·cases hF
   repeat first|refine cg ?_|simp -dsimp[h1]
   all_goals(try first|omega|rfl)
  ·repeat first|refine cg ?_|simp -dsimp[h1,q2]
   revert hF;refine aS ?_ ?_<;>intro h3 q4 hF
   ·repeat first|refine cg ?_|simp -dsimp[h1,q2,h3]
    have hF:=ob hF;obtain⟨v,e5,hF⟩:=hF
    refine((ih_f26 (i64.wrap (0-n)) v e5)).goW (by first|simp[h1,q2,h3];done|simp_all) (by simp) ?_
    have hF:=oc hF;obtain⟨c6,hF⟩:=hF
    cases hF
    repeat first|refine cg ?_|simp -dsimp[h1,q2,h3]
    all_goals(try first|omega|rfl)
   ·repeat first|refine cg ?_|simp -dsimp[h1,q2,h3,q4]
    have hF:=ob hF;obtain⟨o',ho11,hF⟩:=hF
    refine ALoop.goU _ ?_ (((CC.f25 B hB1 hB2) n ByteArray.empty o' ho11) _ rfl _ ?_)
    ·exact(gT (by simp) (by first|simp -dsimp[h1,q2,h3,q4];done|simp_all))
    have hF:=oc hF;obtain⟨c12,hF⟩:=hF
    cases hF
    repeat first|refine cg ?_|simp -dsimp
    all_goals(try first|omega|rfl)
theorem C.f27 (n:Int)(r:ByteArray)(hF:F.f27 n=some r):PureCall Tryd.prog B 96 [li n] (.lit (.string r)):=by
 unfold F.f27 at hF
 refine pE Tryd.func96 (by kernel_rfl) rfl Tryd.ntmps96 (by simp) (by simp) ?_
 repeat first|refine cg ?_|simp -dsimp
 revert hF;refine aS ?_ ?_<;>intro h1 q2 hF
 ·cases hF
  repeat first|refine cg ?_|simp -dsimp[eq_true h1]
  all_goals(try first|omega|rfl)
 ·repeat first|refine cg ?_|simp -dsimp[h1,q2]
  revert hF;refine aS ?_ ?_<;>intro h3 q4 hF
  ·cases hF
   repeat first|refine cg ?_|simp -dsimp[h1,q2,h3]
   all_goals(try first|omega|rfl)
  ·repeat first|refine cg ?_|simp -dsimp[h1,q2,h3,q4]
   have hF:=ob hF;obtain⟨v,e5,hF⟩:=hF
   refine(((CC.f26 B hB1 hB2) n v e5)).goW (by first|simp[h1,q2,h3,q4];done|simp_all) (by simp) ?_
   cases hF
   repeat first|refine cg ?_|simp -dsimp[h1,q2,h3,q4]
   all_goals(try first|omega|rfl)
theorem C.f28 (w:List Vl.Data)(t:Ty)(r:ByteArray)(hF:F.f28 w t=some r):PureCall Tryd.prog B 95 [am Vl.Data.c w,.agg [li t.data,li t.index]] (.lit (.string r)):=by
 unfold F.f28 at hF
 refine pE Tryd.func95 (by kernel_rfl) rfl Tryd.ntmps95 (by simp) (by simp) ?_
 repeat first|refine cg ?_|simp -dsimp
 revert hF;refine aS ?_ ?_<;>intro h1 q2 hF
 ·cases hF
  repeat first|refine cg ?_|simp -dsimp[h1]
  all_goals(try first|omega|rfl)
 ·repeat first|refine cg ?_|simp -dsimp[h1,q2]
  refine ADraw.simple follows (by kernel_rfl) (by kernel_rfl) ?_
  have hF:=ob hF;obtain⟨x,e3a,hF⟩:=hF
  have e3a:=ZZ e3a;obtain⟨ne3,e3⟩:=e3a
  have le3:=ZD e3
  repeat first|refine cg ?_|simp -dsimp[h1,q2,↓e3]
  have hF:=ob hF;obtain⟨v,e4,hF⟩:=hF
  refine((C.f27 B hB1 hB2 t.index v e4)).pgoW (by first|simp[h1,q2,↓e3];done|simp_all) (by simp) ?_
  have hF:=oc hF;obtain⟨c5,hF⟩:=hF
  cases hF
  repeat first|refine cg ?_|simp -dsimp[h1,q2,↓e3]
  all_goals(try first|omega|rfl)
theorem CC.f29 (w:List Vl.Data)(c':Ctor):(∀(out:ByteArray) (i:Nat) (o:ByteArray),F.f29 w c' out i=some o->∀(c:Code),Zr [1,1,0,1,0,0] (ZI Tryd.f93)=some c->∀(Q:Exit->ASt->Prop),(Q (.exit 0) ⟨[(3,.ptr 0 0),(5,.lit (.string o))],[.cells [.lit (.string c'.name),am Ty.c c'.args,li c'.index]]⟩)->ALoopU Tryd.prog B 0 47 (hold c .mk) ⟨[(0,am Vl.Data.c w),(3,.ptr 0 0),(5,.lit (.string out)),(6,li (i:Int))],[.cells [.lit (.string c'.name),am Ty.c c'.args,li c'.index]]⟩ (hold Q .mk)):=by
 refine F.f29.partial_correctness w c'
  _
  ?_
 ·intro _f_f29 ih_f29 out i o hF
  intro c hc Q hq
  obtain rfl:c=_:=ZQ hc rfl
  refine kN fun hk hs=> ?_
  have b0:=hk 0
  simp -dsimp at b0
  have d0:=hs 0 _ rfl
  simp -dsimp[Blk.bnd]at d0
  clear hk hs
  refine eN ?_
  repeat first|refine cg ?_|simp -dsimp
  revert hF;refine aS ?_ ?_<;>intro h1 q2 hF
  ·have z3:((i:Int)<(c'.args.length:Int)):=auz
   repeat first|refine cg ?_|simp -dsimp[h1,z3]
   revert hF;refine aS ?_ ?_<;>intro h4 q5 hF
   ·have z6:((i:Int)=0):=auz
    have hF:=oc hF;obtain⟨c7,hF⟩:=hF
    have hF:=ob hF;obtain⟨x,e8,hF⟩:=hF
    have le8:=ZD e8
    repeat first|refine cg ?_|simp -dsimp[h1,z3,eq_true h4,eq_true z6,↓e8]
    have hF:=ob hF;obtain⟨v,e9,hF⟩:=hF
    refine((C.f28 B hB1 hB2 w x v e9)).goW (by first|simp[h1,z3,eq_true h4,eq_true z6,↓e8];done|simp_all) (by simp) ?_
    have hF:=oc hF;obtain⟨c10,hF⟩:=hF
    have dc10:=c10;simp only[ByteArray.size_append]at dc10
    have w11:i64.wrap ((i:Int)+1)=(i:Int)+1:=ZE (by omega) (by omega)
    repeat first|refine cg ?_|simp -dsimp[h1,z3,eq_true h4,eq_true z6,↓e8,w11]
    refine aG _ ?_ ((ih_f29 ((out++(⟨#[40]⟩:ByteArray))++v) (i+1) o hF) _ rfl _ hq)
    exact(gT (by simp) (by first|simp -dsimp[h1,z3,eq_true h4,eq_true z6,↓e8,w11];done|simp_all))
   ·have z6:¬((i:Int)=0):=auz
    have hF:=oc hF;obtain⟨c12,hF⟩:=hF
    have hF:=ob hF;obtain⟨x13,e14,hF⟩:=hF
    have le14:=ZD e14
    repeat first|refine cg ?_|simp -dsimp[h1,z3,h4,q5,z6,↓e14]
    have hF:=ob hF;obtain⟨v15,e16,hF⟩:=hF
    refine((C.f28 B hB1 hB2 w x13 v15 e16)).goW (by first|simp[h1,z3,h4,q5,z6,↓e14];done|simp_all) (by simp) ?_
    have hF:=oc hF;obtain⟨c17,hF⟩:=hF
    have dc17:=c17;simp only[ByteArray.size_append]at dc17
    have w18:i64.wrap ((i:Int)+1)=(i:Int)+1:=ZE (by omega) (by omega)
    repeat first|refine cg ?_|simp -dsimp[h1,z3,h4,q5,z6,↓e14,w18]
    refine aG _ ?_ ((ih_f29 ((out++(⟨#[44]⟩:ByteArray))++v15) (i+1) o hF) _ rfl _ hq)
    exact(gT (by simp) (by first|simp -dsimp[h1,z3,h4,q5,z6,↓e14,w18];done|simp_all))
  ·have z3:¬((i:Int)<(c'.args.length:Int)):=auz
   cases hF
   repeat first|refine cg ?_|simp -dsimp[h1,q2,z3]
   refine lG _ (gT (by simp) (by first|simp -dsimp[h1,q2,z3];done|simp_all)) hq
theorem C.f30 (w:List Vl.Data)(c':Ctor)(r:ByteArray)(hF:F.f30 w c'=some r):PureCall Tryd.prog B 93 [am Vl.Data.c w,.agg [.lit (.string c'.name),am Ty.c c'.args,li c'.index]] (.lit (.string r)):=by
 unfold F.f30 at hF
 refine pE Tryd.func93 (by kernel_rfl) rfl Tryd.ntmps93 (by simp) (by simp) ?_
 repeat first|refine cg ?_|simp -dsimp
 have hF:=ob hF;obtain⟨o',ho19,hF⟩:=hF
 refine ALoop.goU _ ?_ (((CC.f29 B hB1 hB2 w c') c'.name 0 o' ho19) _ rfl _ ?_)
 ·exact(gT (by simp) (by simp -dsimp))
 repeat first|refine cg ?_|simp -dsimp
 revert hF;refine aS ?_ ?_<;>intro h20 q21 hF
 ·have z22:(0<(c'.args.length:Int)):=auz
  have hF:=oc hF;obtain⟨c23,hF⟩:=hF
  repeat first|refine cg ?_|simp -dsimp[h20,z22]
  revert hF;refine aS ?_ ?_<;>intro h24 q25 hF
  ·have hF:=oc hF;obtain⟨c26,hF⟩:=hF
   have dc26:=c26;simp only[ByteArray.size_append]at dc26
   repeat first|refine cg ?_|simp -dsimp[h20,z22,h24]
   have hF:=ob hF;obtain⟨v27,e28,hF⟩:=hF
   refine(((CC.f26 B hB1 hB2) c'.index v27 e28)).goW (by first|simp[h20,z22,h24];done|simp_all) (by simp) ?_
   have hF:=oc hF;obtain⟨c29,hF⟩:=hF
   have dc29:=c29;simp only[ByteArray.size_append]at dc29
   cases hF
   repeat first|refine cg ?_|simp -dsimp[h20,z22,h24]
   all_goals(try first|omega|rfl)
  ·cases hF
   repeat first|refine cg ?_|simp -dsimp[h20,z22,h24,q25]
   all_goals(try first|omega|rfl)
 ·have z22:¬(0<(c'.args.length:Int)):=auz
  repeat first|refine cg ?_|simp -dsimp[h20,q21,z22]
  revert hF;refine aS ?_ ?_<;>intro h30 q31 hF
  ·have hF:=oc hF;obtain⟨c32,hF⟩:=hF
   repeat first|refine cg ?_|simp -dsimp[h20,q21,z22,h30]
   have hF:=ob hF;obtain⟨v33,e34,hF⟩:=hF
   refine(((CC.f26 B hB1 hB2) c'.index v33 e34)).goW (by first|simp[h20,q21,z22,h30];done|simp_all) (by simp) ?_
   have hF:=oc hF;obtain⟨c35,hF⟩:=hF
   have dc35:=c35;simp only[ByteArray.size_append]at dc35
   cases hF
   repeat first|refine cg ?_|simp -dsimp[h20,q21,z22,h30]
   all_goals(try first|omega|rfl)
  ·cases hF
   repeat first|refine cg ?_|simp -dsimp[h20,q21,z22,h30,q31]
   all_goals(try first|omega|rfl)
theorem CC.f31 (w:List Vl.Data)(d:Nat):(∀(out11:ByteArray) (k:Nat) (o:ByteArray),F.f31 w d out11 k=some o->∀(c:Code),Zr [1,1,0,1,0,0,1,0,0,1,1,1,0,0] (ZI Tryd.f88)=some c->∀(Q:Exit->ASt->Prop),(Q (.exit 2) ⟨[(0,am Vl.Data.c w),(3,.lit (.string o)),(4,li (d:Int))],[]⟩)->ALoopU Tryd.prog B 0 51 (hold c .mk) ⟨[(0,am Vl.Data.c w),(3,.lit (.string out11)),(4,li (d:Int)),(5,li (k:Int))],[]⟩ (hold Q .mk)):=by
 refine F.f31.partial_correctness w d
  _
  ?_
 ·intro _f_f31 ih_f31 out11 k o hF
  intro c hc Q hq
  obtain rfl:c=_:=ZQ hc rfl
  refine kN fun hk hs=> ?_
  have b0:=hk 0
  simp -dsimp at b0
  clear hk hs
  refine eN ?_
  have hF:=ob hF;obtain⟨x12,e13,hF⟩:=hF
  have le13:=ZD e13
  repeat first|refine cg ?_|simp -dsimp[↓e13]
  revert hF;refine aS ?_ ?_<;>intro h14 q15 hF
  ·have z16:((k:Int)<(x12.ctors.length:Int)):=auz
   repeat first|refine cg ?_|simp -dsimp[↓e13,h14,z16]
   revert hF;refine aS ?_ ?_<;>intro h17 q18 hF
   ·have z19:(0<(k:Int)):=auz
    have hF:=oc hF;obtain⟨c20,hF⟩:=hF
    have hF:=ob hF;obtain⟨x21,e22,hF⟩:=hF
    have le22:=ZD e22
    repeat first|refine cg ?_|simp -dsimp[↓e13,h14,z16,h17,z19,↓e22]
    have hF:=ob hF;obtain⟨v,e23,hF⟩:=hF
    refine((C.f30 B hB1 hB2 w x21 v e23)).goW (by first|simp[↓e13,h14,z16,h17,z19,↓e22];done|simp_all) (by simp) ?_
    have hF:=oc hF;obtain⟨c24,hF⟩:=hF
    have dc24:=c24;simp only[ByteArray.size_append]at dc24
    have hF:=oc hF;obtain⟨c25,hF⟩:=hF
    have w26:i64.wrap ((k:Int)+1)=(k:Int)+1:=ZE (by omega) (by omega)
    repeat first|refine cg ?_|simp -dsimp[↓e13,h14,z16,h17,z19,↓e22,w26]
    refine aG _ ?_ ((ih_f31 ((out11++(⟨#[124]⟩:ByteArray))++v) (k+1) o hF) _ rfl _ hq)
    exact(gT (by simp) (by first|simp -dsimp[↓e13,h14,z16,h17,z19,↓e22,w26];done|simp_all))
   ·have z19:¬(0<(k:Int)):=auz
    have hF:=ob hF;obtain⟨x27,e28,hF⟩:=hF
    have le28:=ZD e28
    repeat first|refine cg ?_|simp -dsimp[↓e13,h14,z16,h17,q18,z19,↓e28]
    have hF:=ob hF;obtain⟨v29,e30,hF⟩:=hF
    refine((C.f30 B hB1 hB2 w x27 v29 e30)).goW (by first|simp[↓e13,h14,z16,h17,q18,z19,↓e28];done|simp_all) (by simp) ?_
    have hF:=oc hF;obtain⟨c31,hF⟩:=hF
    have hF:=oc hF;obtain⟨c32,hF⟩:=hF
    have w33:i64.wrap ((k:Int)+1)=(k:Int)+1:=ZE (by omega) (by omega)
    repeat first|refine cg ?_|simp -dsimp[↓e13,h14,z16,h17,q18,z19,↓e28,w33]
    refine aG _ ?_ ((ih_f31 (out11++v29) (k+1) o hF) _ rfl _ hq)
    exact(gT (by simp) (by first|simp -dsimp[↓e13,h14,z16,h17,q18,z19,↓e28,w33];done|simp_all))
  ·have z16:¬((k:Int)<(x12.ctors.length:Int)):=auz
   cases hF
   repeat first|refine cg ?_|simp -dsimp[↓e13,h14,q15,z16]
   refine lG _ (gT (by simp) (by first|simp -dsimp[↓e13,h14,q15,z16];done|simp_all)) hq
theorem CC.f32 (w:List Vl.Data)(d:Nat):(∀(out41:ByteArray) (k42:Nat) (o:ByteArray),F.f32 w d out41 k42=some o->∀(c:Code),Zr [1,1,0,1,0,0,1,0,0,1,1,1,0,0] (ZI Tryd.f88)=some c->∀(Q:Exit->ASt->Prop),(Q (.exit 2) ⟨[(0,am Vl.Data.c w),(3,.lit (.string o)),(4,li (d:Int))],[]⟩)->ALoopU Tryd.prog B 0 51 (hold c .mk) ⟨[(0,am Vl.Data.c w),(3,.lit (.string out41)),(4,li (d:Int)),(5,li (k42:Int))],[]⟩ (hold Q .mk)):=by
 refine F.f32.partial_correctness w d
  _
  ?_
 ·intro _f_f32 ih_f32 out41 k42 o hF
  intro c hc Q hq
  obtain rfl:c=_:=ZQ hc rfl
  refine kN fun hk hs=> ?_
  have b0:=hk 0
  simp -dsimp at b0
  clear hk hs
  refine eN ?_
  have hF:=ob hF;obtain⟨x43,e44,hF⟩:=hF
  have le44:=ZD e44
  repeat first|refine cg ?_|simp -dsimp[↓e44]
  revert hF;refine aS ?_ ?_<;>intro h45 q46 hF
  ·have z47:((k42:Int)<(x43.ctors.length:Int)):=auz
   repeat first|refine cg ?_|simp -dsimp[↓e44,h45,z47]
   revert hF;refine aS ?_ ?_<;>intro h48 q49 hF
   ·have z50:(0<(k42:Int)):=auz
    have hF:=oc hF;obtain⟨c51,hF⟩:=hF
    have hF:=ob hF;obtain⟨x52,e53,hF⟩:=hF
    have le53:=ZD e53
    repeat first|refine cg ?_|simp -dsimp[↓e44,h45,z47,h48,z50,↓e53]
    have hF:=ob hF;obtain⟨v54,e55,hF⟩:=hF
    refine((C.f30 B hB1 hB2 w x52 v54 e55)).goW (by first|simp[↓e44,h45,z47,h48,z50,↓e53];done|simp_all) (by simp) ?_
    have hF:=oc hF;obtain⟨c56,hF⟩:=hF
    have dc56:=c56;simp only[ByteArray.size_append]at dc56
    have hF:=oc hF;obtain⟨c57,hF⟩:=hF
    have w58:i64.wrap ((k42:Int)+1)=(k42:Int)+1:=ZE (by omega) (by omega)
    repeat first|refine cg ?_|simp -dsimp[↓e44,h45,z47,h48,z50,↓e53,w58]
    refine aG _ ?_ ((ih_f32 ((out41++(⟨#[124]⟩:ByteArray))++v54) (k42+1) o hF) _ rfl _ hq)
    exact(gT (by simp) (by first|simp -dsimp[↓e44,h45,z47,h48,z50,↓e53,w58];done|simp_all))
   ·have z50:¬(0<(k42:Int)):=auz
    have hF:=ob hF;obtain⟨x59,e60,hF⟩:=hF
    have le60:=ZD e60
    repeat first|refine cg ?_|simp -dsimp[↓e44,h45,z47,h48,q49,z50,↓e60]
    have hF:=ob hF;obtain⟨v61,e62,hF⟩:=hF
    refine((C.f30 B hB1 hB2 w x59 v61 e62)).goW (by first|simp[↓e44,h45,z47,h48,q49,z50,↓e60];done|simp_all) (by simp) ?_
    have hF:=oc hF;obtain⟨c63,hF⟩:=hF
    have hF:=oc hF;obtain⟨c64,hF⟩:=hF
    have w65:i64.wrap ((k42:Int)+1)=(k42:Int)+1:=ZE (by omega) (by omega)
    repeat first|refine cg ?_|simp -dsimp[↓e44,h45,z47,h48,q49,z50,↓e60,w65]
    refine aG _ ?_ ((ih_f32 (out41++v61) (k42+1) o hF) _ rfl _ hq)
    exact(gT (by simp) (by first|simp -dsimp[↓e44,h45,z47,h48,q49,z50,↓e60,w65];done|simp_all))
  ·have z47:¬((k42:Int)<(x43.ctors.length:Int)):=auz
   cases hF
   repeat first|refine cg ?_|simp -dsimp[↓e44,h45,q46,z47]
   refine lG _ (gT (by simp) (by first|simp -dsimp[↓e44,h45,q46,z47];done|simp_all)) hq
theorem CC.f33 (w:List Vl.Data):(∀(out:ByteArray) (d:Nat) (o:ByteArray),F.f33 w out d=some o->∀(c:Code),Zr [1,1,0,1,0,0] (ZI Tryd.f88)=some c->∀(Q:Exit->ASt->Prop),(Q (.exit 0) ⟨[(3,.lit (.string o))],[]⟩)->ALoopU Tryd.prog B 0 51 (hold c .mk) ⟨[(0,am Vl.Data.c w),(3,.lit (.string out)),(4,li (d:Int))],[]⟩ (hold Q .mk)):=by
 refine F.f33.partial_correctness w
  _
  ?_
 ·intro _f_f33 ih_f33 out d o hF
  intro c hc Q hq
  obtain rfl:c=_:=ZQ hc rfl
  refine kN fun hk hs=> ?_
  have b0:=hk 0
  simp -dsimp at b0
  clear hk hs
  refine eN ?_
  repeat first|refine cg ?_|simp -dsimp
  revert hF;refine aS ?_ ?_<;>intro h1 q2 hF
  ·have z3:((d:Int)<(w.length:Int)):=auz
   repeat first|refine cg ?_|simp -dsimp[h1,z3]
   revert hF;refine aS ?_ ?_<;>intro h4 q5 hF
   ·have z6:(0<(d:Int)):=auz
    have hF:=oc hF;obtain⟨c7,hF⟩:=hF
    have hF:=ob hF;obtain⟨x,e8,hF⟩:=hF
    have le8:=ZD e8
    have hF:=oc hF;obtain⟨c9,hF⟩:=hF
    have dc9:=c9;simp only[ByteArray.size_append]at dc9
    have hF:=oc hF;obtain⟨c10,hF⟩:=hF
    have dc10:=c10;simp only[ByteArray.size_append]at dc10
    repeat first|refine cg ?_|simp -dsimp[h1,z3,h4,z6,↓e8]
    have hF:=ob hF;obtain⟨o',ho34,hF⟩:=hF
    refine ALoop.goU _ ?_ (((CC.f31 B hB1 hB2 w d) (((out++(⟨#[59]⟩:ByteArray))++x.name)++(⟨#[61]⟩:ByteArray)) 0 o' ho34) _ rfl _ ?_)
    ·exact(gT (by simp) (by first|simp -dsimp[h1,z3,h4,z6,↓e8];done|simp_all))
    have hF:=oc hF;obtain⟨c35,hF⟩:=hF
    have w36:i64.wrap ((d:Int)+1)=(d:Int)+1:=ZE (by omega) (by omega)
    repeat first|refine cg ?_|simp -dsimp[w36]
    refine aG _ ?_ ((ih_f33 o' (d+1) o hF) _ rfl _ hq)
    exact(gT (by simp) (by first|simp -dsimp[w36];done|simp_all))
   ·have z6:¬(0<(d:Int)):=auz
    have hF:=ob hF;obtain⟨x37,e38,hF⟩:=hF
    have le38:=ZD e38
    have hF:=oc hF;obtain⟨c39,hF⟩:=hF
    have hF:=oc hF;obtain⟨c40,hF⟩:=hF
    have dc40:=c40;simp only[ByteArray.size_append]at dc40
    repeat first|refine cg ?_|simp -dsimp[h1,z3,h4,q5,z6,↓e38]
    have hF:=ob hF;obtain⟨o'67,ho66,hF⟩:=hF
    refine ALoop.goU _ ?_ (((CC.f32 B hB1 hB2 w d) ((out++x37.name)++(⟨#[61]⟩:ByteArray)) 0 o'67 ho66) _ rfl _ ?_)
    ·exact(gT (by simp) (by first|simp -dsimp[h1,z3,h4,q5,z6,↓e38];done|simp_all))
    have hF:=oc hF;obtain⟨c68,hF⟩:=hF
    have w69:i64.wrap ((d:Int)+1)=(d:Int)+1:=ZE (by omega) (by omega)
    repeat first|refine cg ?_|simp -dsimp[w69]
    refine aG _ ?_ ((ih_f33 o'67 (d+1) o hF) _ rfl _ hq)
    exact(gT (by simp) (by first|simp -dsimp[w69];done|simp_all))
  ·have z3:¬((d:Int)<(w.length:Int)):=auz
   cases hF
   repeat first|refine cg ?_|simp -dsimp[h1,q2,z3]
   refine lG _ (gT (by simp) (by first|simp -dsimp[h1,q2,z3];done|simp_all)) hq
theorem C.f34 (w:List Vl.Data)(r:ByteArray)(hF:F.f34 w=some r):PureCall Tryd.prog B 88 [am Vl.Data.c w] (.lit (.string r)):=by
 unfold F.f34 at hF
 refine pE Tryd.func88 (by kernel_rfl) rfl Tryd.ntmps88 (by simp) (by simp) ?_
 repeat first|refine cg ?_|simp -dsimp
 have hF:=ob hF;obtain⟨o'71,ho70,hF⟩:=hF
 refine ALoop.goU _ ?_ (((CC.f33 B hB1 hB2 w) ByteArray.empty 0 o'71 ho70) _ rfl _ ?_)
 ·exact(gT (by simp) (by simp -dsimp))
 cases hF
 repeat first|refine cg ?_|simp -dsimp
 all_goals(try first|omega|rfl)
theorem CC.f35 (text:ByteArray)(v:List ByteArray):(∀(names:List ByteArray) (i:Nat) (o:Lo ((List Vl.Data)×Bool) (List ByteArray)),F.f35 text v names i=some o->∀(c:Code),Zr [1,1,1,1,0,1,0,0] (ZI Tryd.f79)=some c->∀(Q:Exit->ASt->Prop),o.post (fun r=>∀st,ZCf Tryd.prog Tryd.f79 (fun r' _=>r'.le (.tup [am Vl.Data.c r.1,.lit (.bool r.2)])) .ret st->Q .ret st) (fun s=>Q (.exit 0) ⟨[(0,.lit (.string text)),(4,.own 0 (List.length (α:=Vl.Data) [])),(5,.own 1 (List.length (α:=ByteArray) s)),(6,am cS v)],[.elems 2 (List.map Vl.Data.c []),.elems 1 (List.map cS s)]⟩)->ALoopU Tryd.prog B 0 101 (hold c .mk) ⟨[(0,.lit (.string text)),(4,.own 0 (List.length (α:=Vl.Data) [])),(5,.own 1 (List.length (α:=ByteArray) names)),(6,am cS v),(7,li (i:Int))],[.elems 2 (List.map Vl.Data.c []),.elems 1 (List.map cS names)]⟩ (hold Q .mk)):=by
 refine F.f35.partial_correctness text v
  _
  ?_
 ·intro _f_f35 ih_f35 names i o hF
  intro c hc Q hq
  obtain rfl:c=_:=ZQ hc rfl
  refine kN fun hk hs=> ?_
  have b6:=hk 6
  simp -dsimp at b6
  have d0:=hs 0 _ rfl
  simp -dsimp[Blk.bnd]at d0
  have d1:=hs 1 _ rfl
  simp -dsimp[Blk.bnd]at d1
  clear hk hs
  refine eN ?_
  repeat first|refine cg ?_|simp -dsimp
  revert hF;refine aS ?_ ?_<;>intro h2 q3 hF
  ·have z4:((i:Int)<(v.length:Int)):=auz
   repeat first|refine cg ?_|simp -dsimp[h2,z4]
   revert hF;refine aS ?_ ?_<;>intro h5 q6 hF
   ·have z7:((i:Int)<=4):=auz
    repeat first|refine cg ?_|simp -dsimp[h2,z4,h5,z7]
    revert hF;refine aN ?_ ?_<;>intro h8 q9 hF
    ·have hF:=ob hF;obtain⟨x,e10,hF⟩:=hF
     have le10:=ZD e10
     repeat first|refine cg ?_|simp -dsimp[h2,z4,h5,z7,h8,q9,↓e10]
     have hF:=ob hF;obtain⟨v11,e12,hF⟩:=hF
     refine((C.f3 B hB1 hB2 x 61 v11 e12)).goW (by first|simp[h2,z4,h5,z7,h8,q9,↓e10];done|simp_all) (by simp) ?_
     repeat first|refine cg ?_|simp -dsimp[h2,z4,h5,z7,h8,q9,↓e10]
     revert hF;refine aN ?_ ?_<;>intro h13 q14 hF
     ·have z15:¬((v11.length:Int)=2):=auz
      cases hF
      repeat first|refine cg ?_|simp -dsimp[h2,z4,h5,z7,h8,q9,↓e10,h13,q14,z15]
      refine lG _ (gR _) (hq _ ?_)
      repeat first|refine cg ?_|simp -dsimp[h2,z4,h5,z7,h8,q9,↓e10,h13,q14,z15]
     ·have z15:((v11.length:Int)=2):=auz
      have hF:=ob hF;obtain⟨x16,e17,hF⟩:=hF
      have le17:=ZD e17
      have hF:=oc hF;obtain⟨c18,hF⟩:=hF
      have w19:i64.wrap ((i:Int)+1)=(i:Int)+1:=ZE (by omega) (by omega)
      repeat first|refine cg ?_|simp -dsimp[h2,z4,h5,z7,h8,q9,↓e10,h13,q14,z15,↓e17,w19]
      refine aG _ ?_ ((ih_f35 (names++[x16]) (i+1) o hF) _ rfl _ hq)
      exact(gT (by simp) (by first|simp -dsimp[h2,z4,h5,z7,h8,q9,↓e10,h13,q14,z15,↓e17,w19];done|simp_all))
    ·cases hF
     repeat first|refine cg ?_|simp -dsimp[h2,z4,h5,z7,h8,q9]
     refine lG _ (gT (by simp) (by first|simp -dsimp[h2,z4,h5,z7,h8,q9];done|simp_all)) hq
   ·have z7:¬((i:Int)<=4):=auz
    cases hF
    repeat first|refine cg ?_|simp -dsimp[h2,z4,h5,q6,z7]
    refine lG _ (gT (by simp) (by first|simp -dsimp[h2,z4,h5,q6,z7];done|simp_all)) hq
  ·have z4:¬((i:Int)<(v.length:Int)):=auz
   cases hF
   repeat first|refine cg ?_|simp -dsimp[h2,q3,z4]
   refine lG _ (gT (by simp) (by first|simp -dsimp[h2,q3,z4];done|simp_all)) hq
theorem CC.f36 (text:ByteArray)(v:List ByteArray)(out:List Vl.Data)(names21:List ByteArray)(i22:Nat)(v32:List ByteArray)(x34:ByteArray):(∀(out36:List Ctor) (k:Nat) (o:List Ctor),F.f36 text v out names21 i22 v32 x34 out36 k=some o->∀(c:Code),Zr [1,1,1,1,1,0,1,0,0,1,0,0,1,1,0,1,0,0] (ZI Tryd.f79)=some c->∀(Q:Exit->ASt->Prop),(Q (.exit 4) ⟨[(0,.lit (.string text)),(4,.own 0 (List.length (α:=Vl.Data) out)),(5,am cS names21),(6,am cS v),(9,li (i22:Int)),(11,.ptr 2 0)],[.elems 2 (List.map Vl.Data.c out),.dead,.cells [.lit (.string x34),.own 3 (List.length (α:=Ctor) o)],.elems 3 (List.map Ctor.c o)]⟩)->ALoopU Tryd.prog B 0 101 (hold c .mk) ⟨[(0,.lit (.string text)),(4,.own 0 (List.length (α:=Vl.Data) out)),(5,am cS names21),(6,am cS v),(9,li (i22:Int)),(10,am cS v32),(11,.ptr 2 0),(12,li (k:Int))],[.elems 2 (List.map Vl.Data.c out),.dead,.cells [.lit (.string x34),.own 3 (List.length (α:=Ctor) out36)],.elems 3 (List.map Ctor.c out36)]⟩ (hold Q .mk)):=by
 refine F.f36.partial_correctness text v out names21 i22 v32 x34
  _
  ?_
 ·intro _f_f36 ih_f36 out36 k o hF
  intro c hc Q hq
  obtain rfl:c=_:=ZQ hc rfl
  refine kN fun hk hs=> ?_
  have b5:=hk 5
  simp -dsimp at b5
  have b6:=hk 6
  simp -dsimp at b6
  have b10:=hk 10
  simp -dsimp at b10
  have d0:=hs 0 _ rfl
  simp -dsimp[Blk.bnd]at d0
  have d3:=hs 3 _ rfl
  simp -dsimp[Blk.bnd]at d3
  clear hk hs
  refine eN ?_
  repeat first|refine cg ?_|simp -dsimp
  revert hF;refine aS ?_ ?_<;>intro h37 q38 hF
  ·have z39:((k:Int)<(v32.length:Int)):=auz
   repeat first|refine cg ?_|simp -dsimp[h37,z39]
   revert hF;refine aS ?_ ?_<;>intro h40 q41 hF
   ·have z42:((k:Int)<=4):=auz
    repeat first|refine cg ?_|simp -dsimp[h37,z39,h40,z42]
    refine ADraw.eff [] [(0,1),(0,1),(0,0),(0,0),(0,0),(0,0),(0,0),(0,3),(0,3),(0,3),(2,2),(0,3)] [0,2,1,1,1,1,1,1,1,1,1,1] follows (by kernel_rfl) (by kernel_rfl) (by kernel_rfl) ?_
    have hF:=ob hF;obtain⟨x43,e44,hF⟩:=hF
    have le44:=ZD e44
    repeat first|refine cg ?_|simp -dsimp[h37,z39,h40,z42,↓e44]
    have hF:=ob hF;obtain⟨v45,e46,hF⟩:=hF
    refine((C.f10 B hB1 hB2 names21 x43 v45 e46)).pgoW (by first|simp[h37,z39,h40,z42,↓e44];done|simp_all) (by simp) ?_
    have hF:=oc hF;obtain⟨c47,hF⟩:=hF
    have w48:i64.wrap ((k:Int)+1)=(k:Int)+1:=ZE (by omega) (by omega)
    repeat first|refine cg ?_|simp -dsimp[h37,z39,h40,z42,↓e44,w48]
    refine aG _ ?_ ((ih_f36 (out36++[v45]) (k+1) o hF) _ rfl _ hq)
    exact(gT (by simp) (by first|simp -dsimp[h37,z39,h40,z42,↓e44,w48];done|simp_all))
   ·have z42:¬((k:Int)<=4):=auz
    cases hF
    repeat first|refine cg ?_|simp -dsimp[h37,z39,h40,q41,z42]
    refine lG _ (gT (by simp) (by first|simp -dsimp[h37,z39,h40,q41,z42];done|simp_all)) hq
  ·have z39:¬((k:Int)<(v32.length:Int)):=auz
   cases hF
   repeat first|refine cg ?_|simp -dsimp[h37,q38,z39]
   refine lG _ (gT (by simp) (by first|simp -dsimp[h37,q38,z39];done|simp_all)) hq
theorem CC.f37 (text:ByteArray)(v:List ByteArray)(names21:List ByteArray):(∀(out:List Vl.Data) (i22:Nat) (o:List Vl.Data),F.f37 text v out names21 i22=some o->∀(c:Code),Zr [1,1,1,1,1,0,1,0,0] (ZI Tryd.f79)=some c->∀(Q:Exit->ASt->Prop),(Q (.exit 2) ⟨[(0,.lit (.string text)),(4,.own 0 (List.length (α:=Vl.Data) o))],[.elems 2 (List.map Vl.Data.c o)]⟩)->ALoopU Tryd.prog B 0 101 (hold c .mk) ⟨[(0,.lit (.string text)),(4,.own 0 (List.length (α:=Vl.Data) out)),(5,am cS names21),(6,am cS v),(9,li (i22:Int))],[.elems 2 (List.map Vl.Data.c out),.dead]⟩ (hold Q .mk)):=by
 refine F.f37.partial_correctness text v names21
  _
  ?_
 ·intro _f_f37 ih_f37 out i22 o hF
  intro c hc Q hq
  obtain rfl:c=_:=ZQ hc rfl
  refine kN fun hk hs=> ?_
  have b5:=hk 5
  simp -dsimp at b5
  have b6:=hk 6
  simp -dsimp at b6
  have d0:=hs 0 _ rfl
  simp -dsimp[Blk.bnd]at d0
  clear hk hs
  refine eN ?_
  repeat first|refine cg ?_|simp -dsimp
  revert hF;refine aS ?_ ?_<;>intro h23 q24 hF
  ·have z25:((i22:Int)<(names21.length:Int)):=auz
   have hF:=ob hF;obtain⟨x26,e27,hF⟩:=hF
   have le27:=ZD e27
   repeat first|refine cg ?_|simp -dsimp[h23,z25,↓e27]
   have hF:=ob hF;obtain⟨v28,e29,hF⟩:=hF
   refine((C.f3 B hB1 hB2 x26 61 v28 e29)).goW (by first|simp[h23,z25,↓e27];done|simp_all) (by simp) ?_
   have hF:=ob hF;obtain⟨x30,e31,hF⟩:=hF
   have le31:=ZD e31
   repeat first|refine cg ?_|simp -dsimp[h23,z25,↓e27,↓e31]
   have hF:=ob hF;obtain⟨v32,e33,hF⟩:=hF
   refine((C.f3 B hB1 hB2 x30 124 v32 e33)).goW (by first|simp[h23,z25,↓e27,↓e31];done|simp_all) (by simp) ?_
   have hF:=ob hF;obtain⟨x34,e35,hF⟩:=hF
   have le35:=ZD e35
   repeat first|refine cg ?_|simp -dsimp[h23,z25,↓e27,↓e31,↓e35]
   have hF:=ob hF;obtain⟨o'50,ho49,hF⟩:=hF
   refine ALoop.goU ⟨[(0,.lit (.string text)),(4,.own 0 (List.length (α:=Vl.Data) out)),(5,.arr (List.map cS names21)),(6,.arr (List.map cS v)),(9,.lit (.int .i64 (i22:Int))),(10,.arr (List.map cS v32)),(11,.ptr 2 0),(12,.lit (.int .i64 0))],[.elems 2 (List.map Vl.Data.c out),.dead,.cells [.lit (.string x34),.own 3 (List.length (α:=Ctor) [])],.elems 3 (List.map Ctor.c [])]⟩ (by refine Gh.trans (Gh.nilCell 2 1 3 (by simp -dsimp;rfl) (by simp -dsimp)) ?_;exact(gT (by simp) (by first|simp -dsimp[h23,z25,↓e27,↓e31,↓e35];done|simp_all))) ?_
   refine((CC.f36 B hB1 hB2 text v out names21 i22 v32 x34) [] 0 o'50 ho49) _ rfl _ ?_
   have hF:=oc hF;obtain⟨c51,hF⟩:=hF
   have hF:=oc hF;obtain⟨c52,hF⟩:=hF
   have w53:i64.wrap ((i22:Int)+1)=(i22:Int)+1:=ZE (by omega) (by omega)
   repeat first|refine cg ?_|simp -dsimp[w53]
   refine aG _ ?_ ((ih_f37 (out++[(⟨x34,o'50⟩:Vl.Data)]) (i22+1) o hF) _ rfl _ hq)
   exact(gT (by simp) (by first|simp -dsimp[w53];done|simp_all))
  ·have z25:¬((i22:Int)<(names21.length:Int)):=auz
   cases hF
   repeat first|refine cg ?_|simp -dsimp[h23,q24,z25]
   refine lG _ (gT (by simp) (by first|simp -dsimp[h23,q24,z25];done|simp_all)) hq
theorem C.f38 (text:ByteArray)(r:(List Vl.Data)×Bool)(hF:F.f38 text=some r):PureCall Tryd.prog B 79 [.lit (.string text)] (.tup [am Vl.Data.c r.1,.lit (.bool r.2)]):=by
 unfold F.f38 at hF
 refine pE Tryd.func79 (by kernel_rfl) rfl Tryd.ntmps79 (by simp) (by simp) ?_
 repeat first|refine cg ?_|simp -dsimp
 have hF:=ob hF;obtain⟨v,e1,hF⟩:=hF
 refine((C.f3 B hB1 hB2 text 59 v e1)).goW (by simp) (by simp) ?_
 repeat first|refine cg ?_|simp -dsimp
 have hF:=ob hF;obtain⟨o',ho20,hF⟩:=hF
 refine ALoop.goU _ ?_ (((CC.f35 B hB1 hB2 text v) [] 0 o' ho20) _ rfl _ ?_)
 ·exact(gT (by simp) (by simp -dsimp))
 rcases o' with r0|sx
 ·dsimp only at hF
  cases hF
  intro st h
  simpa using h
 ·dsimp only at hF
  repeat first|refine cg ?_|simp -dsimp
  have hF:=ob hF;obtain⟨o'55,ho54,hF⟩:=hF
  refine ALoop.goU ⟨[(0,.lit (.string text)),(4,.own 0 (List.length (α:=Vl.Data) [])),(5,.arr (List.map cS sx)),(6,.arr (List.map cS v)),(9,.lit (.int .i64 0))],[.elems 2 (List.map Vl.Data.c []),.dead]⟩ (by refine Gh.trans (Gh.frzSlot 5 (l:=1) (n:=List.length (α:=ByteArray) sx) (sz:=1) (es:=List.map cS sx) (by simp) (by simp) (by simp) (by simp)) ?_;exact(gT (by simp) (by simp -dsimp))) ?_
  refine((CC.f37 B hB1 hB2 text v sx) [] 0 o'55 ho54) _ rfl _ ?_
  repeat first|refine cg ?_|simp -dsimp
  have hF:=ob hF;obtain⟨v56,e57,hF⟩:=hF
  refine((C.f24 B hB1 hB2 o'55 v56 e57)).lend (by simp -dsimp) (by simp -dsimp) ?_
  repeat first|refine cg ?_|simp -dsimp
  revert hF;refine aS (fun h58 q59 hF=> ?_) (fun h58 q59 hF=> ?_)
  ·repeat first|refine cg ?_|simp -dsimp[h58]
   have hF:=ob hF;obtain⟨v60,e61,hF⟩:=hF
   refine((C.f34 B hB1 hB2 o'55 v60 e61)).lend (by first|simp -dsimp[h58];done|simp_all) (by simp -dsimp) ?_
   repeat first|refine cg ?_|simp -dsimp[h58]
   revert hF;refine aN ?_ ?_<;>intro h62 q63 hF
   ·cases hF
    repeat first|refine cg ?_|simp -dsimp[h58,h62,q63]
    all_goals(try first|omega|rfl)
   ·cases hF
    repeat first|refine cg ?_|simp -dsimp[h58,h62,q63]
    all_goals(try first|omega|rfl)
  ·cases hF
   repeat first|refine cg ?_|simp -dsimp[h58,q59]
   all_goals(try first|omega|rfl)
theorem C.f39 (r':ZB)(r:(List Vl.Data)×ZB)(hF:F.f39 r'=some r):MutCall Tryd.prog B 65 [am cU r'.f0,li r'.f1] [.ptr 0 0] (am Vl.Data.c r.1) [am cU r.2.f0,li r.2.f1]:=by
 unfold F.f39 at hF
 refine MutCall.enter Tryd.func65 (by kernel_rfl) rfl Tryd.ntmps65 (by simp) (by simp) (by simp) (by simp) ?_
 repeat first|refine cg ?_|simp -dsimp
 have hF:=ob hF;obtain⟨v,e1,hF⟩:=hF
 refine((C.f0 B hB1 hB2 v e1)).goW (by simp) (by simp) ?_
 repeat first|refine cg ?_|simp -dsimp
 have hF:=ob hF;obtain⟨v2,e3,hF⟩:=hF
 refine((C.f1 B hB1 hB2 r' (i64.wrap ((v.length:Int) -1)) v2 e3)).go 0 rfl (by simp) (by simp) (by simp) ?_
 have hF:=ob hF;obtain⟨x,e4a,hF⟩:=hF
 have e4a:=ZZ e4a;obtain⟨ne4,e4⟩:=e4a
 have le4:=ZD e4
 repeat first|refine cg ?_|simp -dsimp[↓e4]
 have hF:=ob hF;obtain⟨v5,e6,hF⟩:=hF
 refine((C.f38 B hB1 hB2 x v5 e6)).goW (by first|simp[↓e4];done|simp_all) (by simp) ?_
 cases hF
 repeat first|refine cg ?_|simp -dsimp[↓e4]
 all_goals(try first|omega|rfl)
theorem C.f40 (c':Ctor)(index':Int)(r:Bool)(hF:F.f40 c' index'=some r):PureCall Tryd.prog B 89 [.agg [.lit (.string c'.name),am Ty.c c'.args,li c'.index],li index'] (.lit (.bool r)):=by
 unfold F.f40 at hF
 refine pE Tryd.func89 (by kernel_rfl) rfl Tryd.ntmps89 (by simp) (by simp) ?_
 repeat first|refine cg ?_|simp -dsimp
 revert hF;refine aN ?_ ?_<;>intro h1 q2 hF
 ·repeat first|refine cg ?_|simp -dsimp[h1,q2]
  revert hF;refine aN ?_ ?_<;>intro h3 q4 hF
  ·cases hF
   repeat first|refine cg ?_|simp -dsimp[h1,q2,h3,q4]
   all_goals(try first|omega|rfl)
  ·cases hF
   repeat first|refine cg ?_|simp -dsimp[h1,q2,eq_true h3,eq_true q4]
   all_goals(try first|omega|rfl)
 ·cases hF
  repeat first|refine cg ?_|simp -dsimp[h1,q2]
  all_goals(try first|omega|rfl)
theorem CC.f41 (w:List Vl.Data)(t:Ty):(∀(out:List Int) (k:Nat) (o:List Int),F.f41 w t out k=some o->∀(c:Code),Zr [1,1,1,0,1,0,0] (ZI Tryd.f80)=some c->∀(Q:Exit->ASt->Prop),(Q (.exit 0) ⟨[(5,.own 1 (List.length (α:=Int) o))],[.dead,.elems 1 (List.map cI o)]⟩)->ALoopU Tryd.prog B 0 40 (hold c .mk) ⟨[(0,am Vl.Data.c w),(3,.ptr 0 0),(5,.own 1 (List.length (α:=Int) out)),(6,li (k:Int))],[.cells [li t.data,li t.index],.elems 1 (List.map cI out)]⟩ (hold Q .mk)):=by
 refine F.f41.partial_correctness w t
  _
  ?_
 ·intro _f_f41 ih_f41 out k o hF
  intro c hc Q hq
  obtain rfl:c=_:=ZQ hc rfl
  refine kN fun hk hs=> ?_
  have b0:=hk 0
  simp -dsimp at b0
  have d1:=hs 1 _ rfl
  simp -dsimp[Blk.bnd]at d1
  clear hk hs
  refine eN ?_
  have hF:=ob hF;obtain⟨x,e3a,hF⟩:=hF
  have e3a:=ZZ e3a;obtain⟨ne3,e3⟩:=e3a
  have le3:=ZD e3
  repeat first|refine cg ?_|simp -dsimp[↓e3]
  revert hF;refine aS ?_ ?_<;>intro h4 q5 hF
  ·have z6:((k:Int)<(x.ctors.length:Int)):=auz
   repeat first|refine cg ?_|simp -dsimp[↓e3,h4,z6]
   refine ADraw.simple follows (by kernel_rfl) (by kernel_rfl) ?_
   have hF:=ob hF;obtain⟨x7,e8,hF⟩:=hF
   have le8:=ZD e8
   repeat first|refine cg ?_|simp -dsimp[↓e3,h4,z6,↓e8]
   have hF:=ob hF;obtain⟨v,e9,hF⟩:=hF
   refine((C.f40 B hB1 hB2 x7 t.index v e9)).pgoW (by first|simp[↓e3,h4,z6,↓e8];done|simp_all) (by simp) ?_
   repeat first|refine cg ?_|simp -dsimp[↓e3,h4,z6,↓e8]
   revert hF;refine aS (fun h10 q11 hF=> ?_) (fun h10 q11 hF=> ?_)
   ·have hF:=oc hF;obtain⟨c12,hF⟩:=hF
    have hF:=oc hF;obtain⟨c13,hF⟩:=hF
    have w14:i64.wrap ((k:Int)+1)=(k:Int)+1:=ZE (by omega) (by omega)
    repeat first|refine cg ?_|simp -dsimp[↓e3,h4,z6,↓e8,h10,w14]
    refine aG _ ?_ ((ih_f41 (out++[(k:Int)]) (k+1) o hF) _ rfl _ hq)
    exact(gT (by simp) (by first|simp -dsimp[↓e3,h4,z6,↓e8,h10,w14];done|simp_all))
   ·have hF:=oc hF;obtain⟨c15,hF⟩:=hF
    have w16:i64.wrap ((k:Int)+1)=(k:Int)+1:=ZE (by omega) (by omega)
    repeat first|refine cg ?_|simp -dsimp[↓e3,h4,z6,↓e8,h10,q11,w16]
    refine aG _ ?_ ((ih_f41 out (k+1) o hF) _ rfl _ hq)
    exact(gT (by simp) (by first|simp -dsimp[↓e3,h4,z6,↓e8,h10,q11,w16];done|simp_all))
  ·have z6:¬((k:Int)<(x.ctors.length:Int)):=auz
   cases hF
   repeat first|refine cg ?_|simp -dsimp[↓e3,h4,q5,z6]
   refine lG _ (gT (by simp) (by first|simp -dsimp[↓e3,h4,q5,z6];done|simp_all)) hq
theorem C.f42 (w:List Vl.Data)(t:Ty)(r:List Int)(hF:F.f42 w t=some r):PureCall Tryd.prog B 80 [am Vl.Data.c w,.agg [li t.data,li t.index]] (am cI r):=by
 unfold F.f42 at hF
 refine pE Tryd.func80 (by kernel_rfl) rfl Tryd.ntmps80 (by simp) (by simp) ?_
 repeat first|refine cg ?_|simp -dsimp
 revert hF;refine aS ?_ ?_<;>intro h1 q2 hF
 ·cases hF
  repeat first|refine cg ?_|simp -dsimp[h1]
  all_goals(try first|omega|rfl)
 ·repeat first|refine cg ?_|simp -dsimp[h1,q2]
  have hF:=ob hF;obtain⟨o',ho17,hF⟩:=hF
  refine ALoop.goU _ ?_ (((CC.f41 B hB1 hB2 w t) [] 0 o' ho17) _ rfl _ ?_)
  ·exact(gT (by simp) (by first|simp -dsimp[h1,q2];done|simp_all))
  cases hF
  repeat first|refine cg ?_|simp -dsimp
  all_goals(try first|omega|rfl)
theorem C.f43 (c':Ctor)(index':Int)(r:Int)(hF:F.f43 c' index'=some r):PureCall Tryd.prog B 85 [.agg [.lit (.string c'.name),am Ty.c c'.args,li c'.index],li index'] (li r):=by
 unfold F.f43 at hF
 refine pE Tryd.func85 (by kernel_rfl) rfl Tryd.ntmps85 (by simp) (by simp) ?_
 repeat first|refine cg ?_|simp -dsimp
 revert hF;refine aS ?_ ?_<;>intro h1 q2 hF
 ·cases hF
  repeat first|refine cg ?_|simp -dsimp[h1]
  all_goals(try first|omega|rfl)
 ·cases hF
  repeat first|refine cg ?_|simp -dsimp[h1,q2]
  all_goals(try first|omega|rfl)
theorem CC.f44 (t:Ty)(x2:Ctor):(∀(out:List Ty) (i:Nat) (o:List Ty),F.f44 t x2 out i=some o->∀(c:Code),Zr [1,1,1,0,1,0,0] (ZI Tryd.f74)=some c->∀(Q:Exit->ASt->Prop),(Q (.exit 0) ⟨[(7,.own 1 (List.length (α:=Ty) o))],[.dead,.elems 2 (List.map Ty.c o)]⟩)->ALoopU Tryd.prog B 0 46 (hold c .mk) ⟨[(4,.ptr 0 0),(7,.own 1 (List.length (α:=Ty) out)),(8,.ptr 2 0),(9,li (i:Int))],[.cells [li t.data,li t.index],.elems 2 (List.map Ty.c out),.cells [.lit (.string x2.name),am Ty.c x2.args,li x2.index]]⟩ (hold Q .mk)):=by
 refine F.f44.partial_correctness t x2
  _
  ?_
 ·intro _f_f44 ih_f44 out i o hF
  intro c hc Q hq
  obtain rfl:c=_:=ZQ hc rfl
  refine kN fun hk hs=> ?_
  have d1:=hs 1 _ rfl
  simp -dsimp[Blk.bnd]at d1
  have d2:=hs 2 _ rfl
  simp -dsimp[Blk.bnd]at d2
  clear hk hs
  refine eN ?_
  repeat first|refine cg ?_|simp -dsimp
  revert hF;refine aS ?_ ?_<;>intro h4 q5 hF
  ·have z6:((i:Int)<(x2.args.length:Int)):=auz
   have hF:=ob hF;obtain⟨x7,e8,hF⟩:=hF
   have le8:=ZD e8
   repeat first|refine cg ?_|simp -dsimp[h4,z6,↓e8]
   revert hF;refine aS ?_ ?_<;>intro h9 q10 hF
   ·repeat first|refine cg ?_|simp -dsimp[h4,z6,↓e8,h9]
    have hF:=ob hF;obtain⟨v,e11,hF⟩:=hF
    refine((C.f43 B hB1 hB2 x2 t.index v e11)).goW (by first|simp[h4,z6,↓e8,h9];done|simp_all) (by simp) ?_
    have hF:=oc hF;obtain⟨c12,hF⟩:=hF
    have w13:i64.wrap ((i:Int)+1)=(i:Int)+1:=ZE (by omega) (by omega)
    repeat first|refine cg ?_|simp -dsimp[h4,z6,↓e8,h9,w13]
    refine aG _ ?_ ((ih_f44 (out++[(⟨x7.data,v⟩:Ty)]) (i+1) o hF) _ rfl _ hq)
    exact(gT (by simp) (by first|simp -dsimp[h4,z6,↓e8,h9,w13];done|simp_all))
   ·have hF:=oc hF;obtain⟨c14,hF⟩:=hF
    have w15:i64.wrap ((i:Int)+1)=(i:Int)+1:=ZE (by omega) (by omega)
    repeat first|refine cg ?_|simp -dsimp[h4,z6,↓e8,h9,q10,w15]
    refine aG _ ?_ ((ih_f44 (out++[x7]) (i+1) o hF) _ rfl _ hq)
    exact(gT (by simp) (by first|simp -dsimp[h4,z6,↓e8,h9,q10,w15];done|simp_all))
  ·have z6:¬((i:Int)<(x2.args.length:Int)):=auz
   cases hF
   repeat first|refine cg ?_|simp -dsimp[h4,q5,z6]
   refine lG _ (gT (by simp) (by first|simp -dsimp[h4,q5,z6];done|simp_all)) hq
theorem C.f45 (w:List Vl.Data)(t:Ty)(ctor:Int)(r:List Ty)(hF:F.f45 w t ctor=some r):PureCall Tryd.prog B 74 [am Vl.Data.c w,.agg [li t.data,li t.index],li ctor] (am Ty.c r):=by
 unfold F.f45 at hF
 refine pE Tryd.func74 (by kernel_rfl) rfl Tryd.ntmps74 (by simp) (by simp) ?_
 have hF:=ob hF;obtain⟨x,e1a,hF⟩:=hF
 have e1a:=ZZ e1a;obtain⟨ne1,e1⟩:=e1a
 have le1:=ZD e1
 have hF:=ob hF;obtain⟨x2,e3a,hF⟩:=hF
 have e3a:=ZZ e3a;obtain⟨ne3,e3⟩:=e3a
 have le3:=ZD e3
 repeat first|refine cg ?_|simp -dsimp[↓e1,↓e3]
 have hF:=ob hF;obtain⟨o',ho16,hF⟩:=hF
 refine ALoop.goU _ ?_ (((CC.f44 B hB1 hB2 t x2) [] 0 o' ho16) _ rfl _ ?_)
 ·exact(gT (by simp) (by first|simp -dsimp[↓e1,↓e3];done|simp_all))
 cases hF
 repeat first|refine cg ?_|simp -dsimp
 all_goals(try first|omega|rfl)
theorem C.f46 (t:Ty)(r:Int)(hF:F.f46 t=some r):PureCall Tryd.prog B 82 [.agg [li t.data,li t.index]] (li r):=by
 unfold F.f46 at hF
 refine pE Tryd.func82 (by kernel_rfl) rfl Tryd.ntmps82 (by simp) (by simp) ?_
 cases hF
 repeat first|refine cg ?_|simp -dsimp
 all_goals(try first|omega|rfl)
theorem C.f47 (table:List Int)(t:Ty)(r:Int)(hF:F.f47 table t=some r):PureCall Tryd.prog B 67 [am cI table,.agg [li t.data,li t.index]] (li r):=by
 unfold F.f47 at hF
 refine pE Tryd.func67 (by kernel_rfl) rfl Tryd.ntmps67 (by simp) (by simp) ?_
 repeat first|refine cg ?_|simp -dsimp
 revert hF;refine aS ?_ ?_<;>intro h1 q2 hF
 ·cases hF
  repeat first|refine cg ?_|simp -dsimp[h1]
  all_goals(try first|omega|rfl)
 ·repeat first|refine cg ?_|simp -dsimp[h1,q2]
  have hF:=ob hF;obtain⟨v,e3,hF⟩:=hF
  refine((C.f46 B hB1 hB2 t v e3)).goW (by first|simp[h1,q2];done|simp_all) (by simp) ?_
  have hF:=ob hF;obtain⟨x,e4a,hF⟩:=hF
  have e4a:=ZZ e4a;obtain⟨ne4,e4⟩:=e4a
  have le4:=ZD e4
  cases hF
  repeat first|refine cg ?_|simp -dsimp[h1,q2,↓e4]
  all_goals(try first|omega|rfl)
theorem CC.f48 (table:List Int)(v:List Ty):(∀(most:Int) (i:Nat) (o:Lo Int Int),F.f48 table v most i=some o->∀(c:Code),Zr [1,1,1,0,1,0,0] (ZI Tryd.f81)=some c->∀(Q:Exit->ASt->Prop),o.post (fun r=>∀st,ZCf Tryd.prog Tryd.f81 (fun r' _=>r'.le (li r)) .ret st->Q .ret st) (fun s=>Q (.exit 0) ⟨[(10,li s)],[]⟩)->ALoopU Tryd.prog B 0 37 (hold c .mk) ⟨[(1,am cI table),(9,am Ty.c v),(10,li most),(11,li (i:Int))],[]⟩ (hold Q .mk)):=by
 refine F.f48.partial_correctness table v
  _
  ?_
 ·intro _f_f48 ih_f48 most i o hF
  intro c hc Q hq
  obtain rfl:c=_:=ZQ hc rfl
  refine kN fun hk hs=> ?_
  have b1:=hk 1
  simp -dsimp at b1
  have b9:=hk 9
  simp -dsimp at b9
  clear hk hs
  refine eN ?_
  repeat first|refine cg ?_|simp -dsimp
  revert hF;refine aS ?_ ?_<;>intro h2 q3 hF
  ·have z4:((i:Int)<(v.length:Int)):=auz
   have hF:=ob hF;obtain⟨x,e5,hF⟩:=hF
   have le5:=ZD e5
   repeat first|refine cg ?_|simp -dsimp[h2,z4,↓e5]
   have hF:=ob hF;obtain⟨v6,e7,hF⟩:=hF
   refine((C.f47 B hB1 hB2 table x v6 e7)).goW (by first|simp[h2,z4,↓e5];done|simp_all) (by simp) ?_
   repeat first|refine cg ?_|simp -dsimp[h2,z4,↓e5]
   revert hF;refine aS ?_ ?_<;>intro h8 q9 hF
   ·cases hF
    repeat first|refine cg ?_|simp -dsimp[h2,z4,↓e5,eq_true h8]
    refine lG _ (gR _) (hq _ ?_)
    repeat first|refine cg ?_|simp -dsimp[h2,z4,↓e5,eq_true h8]
   ·repeat first|refine cg ?_|simp -dsimp[h2,z4,↓e5,h8,q9]
    revert hF;refine aS ?_ ?_<;>intro h10 q11 hF
    ·have w12:i64.wrap ((i:Int)+1)=(i:Int)+1:=ZE (by omega) (by omega)
     repeat first|refine cg ?_|simp -dsimp[h2,z4,↓e5,h8,q9,h10,w12]
     refine aG _ ?_ ((ih_f48 v6 (i+1) o hF) _ rfl _ hq)
     exact(gT (by simp) (by first|simp -dsimp[h2,z4,↓e5,h8,q9,h10,w12];done|simp_all))
    ·have w13:i64.wrap ((i:Int)+1)=(i:Int)+1:=ZE (by omega) (by omega)
     repeat first|refine cg ?_|simp -dsimp[h2,z4,↓e5,h8,q9,h10,q11,w13]
     refine aG _ ?_ ((ih_f48 most (i+1) o hF) _ rfl _ hq)
     exact(gT (by simp) (by first|simp -dsimp[h2,z4,↓e5,h8,q9,h10,q11,w13];done|simp_all))
  ·have z4:¬((i:Int)<(v.length:Int)):=auz
   cases hF
   repeat first|refine cg ?_|simp -dsimp[h2,q3,z4]
   refine lG _ (gT (by simp) (by first|simp -dsimp[h2,q3,z4];done|simp_all)) hq
theorem C.f49 (w:List Vl.Data)(table:List Int)(t:Ty)(ctor:Int)(r:Int)(hF:F.f49 w table t ctor=some r):PureCall Tryd.prog B 81 [am Vl.Data.c w,am cI table,.agg [li t.data,li t.index],li ctor] (li r):=by
 unfold F.f49 at hF
 refine pE Tryd.func81 (by kernel_rfl) rfl Tryd.ntmps81 (by simp) (by simp) ?_
 repeat first|refine cg ?_|simp -dsimp
 have hF:=ob hF;obtain⟨v,e1,hF⟩:=hF
 refine((C.f45 B hB1 hB2 w t ctor v e1)).goW (by simp) (by simp) ?_
 repeat first|refine cg ?_|simp -dsimp
 have hF:=ob hF;obtain⟨o',ho14,hF⟩:=hF
 refine ALoop.goU _ ?_ (((CC.f48 B hB1 hB2 table v) 0 0 o' ho14) _ rfl _ ?_)
 ·exact(gT (by simp) (by simp -dsimp))
 rcases o' with r0|sx
 ·dsimp only at hF
  cases hF
  intro st h
  simpa using h
 ·dsimp only at hF
  cases hF
  repeat first|refine cg ?_|simp -dsimp
  all_goals(try first|omega|rfl)
theorem CC.f50 (w:List Vl.Data)(n:Nat)(s:Nat)(v:List Int):(∀(table10:List Int) (i:Nat) (o:List Int),F.f50 w n s v table10 i=some o->∀(c:Code),Zr [1,1,0,1,0,0,1,0,0,1,0,0,1,0,0,1,1,1,0,0] (ZI Tryd.f66)=some c->∀(Q:Exit->ASt->Prop),(Q (.exit 4) ⟨[(0,am Vl.Data.c w),(3,.own 0 (List.length (α:=Int) o)),(4,li (n:Int)),(5,li (s:Int))],[.elems 1 (List.map cI o)]⟩)->ALoopU Tryd.prog B 0 70 (hold c .mk) ⟨[(0,am Vl.Data.c w),(3,.own 0 (List.length (α:=Int) table10)),(4,li (n:Int)),(5,li (s:Int)),(6,.ptr 1 0),(7,am cI v),(8,li (i:Int))],[.elems 1 (List.map cI table10),.cells [li (i64.wrap ((s:Int).tdiv 4)),li ((s:Int).tmod 4)]]⟩ (hold Q .mk)):=by
 refine F.f50.partial_correctness w n s v
  _
  ?_
 ·intro _f_f50 ih_f50 table10 i o hF
  intro c hc Q hq
  obtain rfl:c=_:=ZQ hc rfl
  refine kN fun hk hs=> ?_
  have b0:=hk 0
  simp -dsimp at b0
  have b7:=hk 7
  simp -dsimp at b7
  have d0:=hs 0 _ rfl
  simp -dsimp[Blk.bnd]at d0
  clear hk hs
  refine eN ?_
  repeat first|refine cg ?_|simp -dsimp
  revert hF;refine aS ?_ ?_<;>intro h11 q12 hF
  ·have z13:((i:Int)<(v.length:Int)):=auz
   repeat first|refine cg ?_|simp -dsimp[h11,z13]
   refine ADraw.eff [81] [(0,0),(0,0),(0,0),(0,0),(0,0),(0,0),(0,0),(0,1),(1,1)] [1,1,1,1,1,1,1,1,1] follows (by kernel_rfl) (by kernel_rfl) (by kernel_rfl) ?_
   have hF:=ob hF;obtain⟨x,e14,hF⟩:=hF
   have le14:=ZD e14
   repeat first|refine cg ?_|simp -dsimp[h11,z13,↓e14]
   have hF:=ob hF;obtain⟨v15,e16,hF⟩:=hF
   refine((C.f49 B hB1 hB2 w table10 (⟨i64.wrap ((s:Int).tdiv 4),(s:Int).tmod 4⟩:Ty) x v15 e16)).elend (by first|simp -dsimp[h11,z13,↓e14];done|simp_all) (by simp -dsimp) ?_
   repeat first|refine cg ?_|simp -dsimp[h11,z13,↓e14]
   revert hF;refine aS ?_ ?_<;>intro h17 q18 hF
   ·have hF:=ob hF;obtain⟨x19,e20,hF⟩:=hF
    have le20:=ZD e20
    repeat first|refine cg ?_|simp -dsimp[h11,z13,↓e14,h17,↓e20]
    revert hF;refine aN ?_ ?_<;>intro h21 q22 hF
    ·repeat first|refine cg ?_|simp -dsimp[h11,z13,↓e14,h17,↓e20,h21,q22]
     revert hF;refine aS ?_ ?_<;>intro h23 q24 hF
     ·have w25:i64.wrap ((i:Int)+1)=(i:Int)+1:=ZE (by omega) (by omega)
      repeat first|refine cg ?_|simp -dsimp[h11,z13,↓e14,h17,↓e20,h21,q22,h23,w25]
      refine aG _ ?_ ((ih_f50 (table10.set s v15) (i+1) o hF) _ rfl _ hq)
      exact(gT (by simp) (by first|simp -dsimp[h11,z13,↓e14,h17,↓e20,h21,q22,h23,w25];done|simp_all))
     ·have w26:i64.wrap ((i:Int)+1)=(i:Int)+1:=ZE (by omega) (by omega)
      repeat first|refine cg ?_|simp -dsimp[h11,z13,↓e14,h17,↓e20,h21,q22,h23,q24,w26]
      refine aG _ ?_ ((ih_f50 table10 (i+1) o hF) _ rfl _ hq)
      exact(gT (by simp) (by first|simp -dsimp[h11,z13,↓e14,h17,↓e20,h21,q22,h23,q24,w26];done|simp_all))
    ·have w27:i64.wrap ((i:Int)+1)=(i:Int)+1:=ZE (by omega) (by omega)
     repeat first|refine cg ?_|simp -dsimp[h11,z13,↓e14,h17,↓e20,eq_true h21,eq_true q22,w27]
     refine aG _ ?_ ((ih_f50 (table10.set s v15) (i+1) o hF) _ rfl _ hq)
     exact(gT (by simp) (by first|simp -dsimp[h11,z13,↓e14,h17,↓e20,eq_true h21,eq_true q22,w27];done|simp_all))
   ·have w28:i64.wrap ((i:Int)+1)=(i:Int)+1:=ZE (by omega) (by omega)
    repeat first|refine cg ?_|simp -dsimp[h11,z13,↓e14,h17,q18,w28]
    refine aG _ ?_ ((ih_f50 table10 (i+1) o hF) _ rfl _ hq)
    exact(gT (by simp) (by first|simp -dsimp[h11,z13,↓e14,h17,q18,w28];done|simp_all))
  ·have z13:¬((i:Int)<(v.length:Int)):=auz
   cases hF
   repeat first|refine cg ?_|simp -dsimp[h11,q12,z13]
   refine lG _ (gT (by simp) (by first|simp -dsimp[h11,q12,z13];done|simp_all)) hq
theorem CC.f51 (w:List Vl.Data)(n:Nat):(∀(table5:List Int) (s:Nat) (o:List Int),F.f51 w n table5 s=some o->∀(c:Code),Zr [1,1,0,1,0,0,1,0,0,1,0,0] (ZI Tryd.f66)=some c->∀(Q:Exit->ASt->Prop),(Q (.exit 2) ⟨[(0,am Vl.Data.c w),(3,.own 0 (List.length (α:=Int) o)),(4,li (n:Int))],[.elems 1 (List.map cI o)]⟩)->ALoopU Tryd.prog B 0 70 (hold c .mk) ⟨[(0,am Vl.Data.c w),(3,.own 0 (List.length (α:=Int) table5)),(4,li (n:Int)),(5,li (s:Int))],[.elems 1 (List.map cI table5)]⟩ (hold Q .mk)):=by
 refine F.f51.partial_correctness w n
  _
  ?_
 ·intro _f_f51 ih_f51 table5 s o hF
  intro c hc Q hq
  obtain rfl:c=_:=ZQ hc rfl
  refine kN fun hk hs=> ?_
  have b0:=hk 0
  simp -dsimp at b0
  have d0:=hs 0 _ rfl
  simp -dsimp[Blk.bnd]at d0
  clear hk hs
  refine eN ?_
  repeat first|refine cg ?_|simp -dsimp
  revert hF;refine aS ?_ ?_<;>intro h6 q7 hF
  ·have z8:((s:Int)<(table5.length:Int)):=auz
   repeat first|refine cg ?_|simp -dsimp[h6,z8]
   have hF:=ob hF;obtain⟨v,e9,hF⟩:=hF
   refine((C.f42 B hB1 hB2 w (⟨i64.wrap ((s:Int).tdiv 4),(s:Int).tmod 4⟩:Ty) v e9)).goW (by first|simp[h6,z8];done|simp_all) (by simp) ?_
   repeat first|refine cg ?_|simp -dsimp[h6,z8]
   have hF:=ob hF;obtain⟨o',ho29,hF⟩:=hF
   refine ALoop.goU _ ?_ (((CC.f50 B hB1 hB2 w n s v) table5 0 o' ho29) _ rfl _ ?_)
   ·exact(gT (by simp) (by first|simp -dsimp[h6,z8];done|simp_all))
   have hF:=oc hF;obtain⟨c30,hF⟩:=hF
   have w31:i64.wrap ((s:Int)+1)=(s:Int)+1:=ZE (by omega) (by omega)
   repeat first|refine cg ?_|simp -dsimp[w31]
   refine aG _ ?_ ((ih_f51 o' (s+1) o hF) _ rfl _ hq)
   exact(gT (by simp) (by first|simp -dsimp[w31];done|simp_all))
  ·have z8:¬((s:Int)<(table5.length:Int)):=auz
   cases hF
   repeat first|refine cg ?_|simp -dsimp[h6,q7,z8]
   refine lG _ (gT (by simp) (by first|simp -dsimp[h6,q7,z8];done|simp_all)) hq
theorem CC.f52 (w:List Vl.Data):(∀(table:List Int) (n:Nat) (o:List Int),F.f52 w table n=some o->∀(c:Code),Zr [1,1,0,1,0,0] (ZI Tryd.f66)=some c->∀(Q:Exit->ASt->Prop),(Q (.exit 0) ⟨[(3,.own 0 (List.length (α:=Int) o))],[.elems 1 (List.map cI o)]⟩)->ALoopU Tryd.prog B 0 70 (hold c .mk) ⟨[(0,am Vl.Data.c w),(3,.own 0 (List.length (α:=Int) table)),(4,li (n:Int))],[.elems 1 (List.map cI table)]⟩ (hold Q .mk)):=by
 refine F.f52.partial_correctness w
  _
  ?_
 ·intro _f_f52 ih_f52 table n o hF
  intro c hc Q hq
  obtain rfl:c=_:=ZQ hc rfl
  refine kN fun hk hs=> ?_
  have b0:=hk 0
  simp -dsimp at b0
  have d0:=hs 0 _ rfl
  simp -dsimp[Blk.bnd]at d0
  clear hk hs
  refine eN ?_
  repeat first|refine cg ?_|simp -dsimp
  revert hF;refine aS ?_ ?_<;>intro h2 q3 hF
  ·have z4:((n:Int)<=(table.length:Int)):=auz
   repeat first|refine cg ?_|simp -dsimp[h2,z4]
   have hF:=ob hF;obtain⟨o'33,ho32,hF⟩:=hF
   refine ALoop.goU _ ?_ (((CC.f51 B hB1 hB2 w n) table 0 o'33 ho32) _ rfl _ ?_)
   ·exact(gT (by simp) (by first|simp -dsimp[h2,z4];done|simp_all))
   have hF:=oc hF;obtain⟨c34,hF⟩:=hF
   have w35:i64.wrap ((n:Int)+1)=(n:Int)+1:=ZE (by omega) (by omega)
   repeat first|refine cg ?_|simp -dsimp[w35]
   refine aG _ ?_ ((ih_f52 o'33 (n+1) o hF) _ rfl _ hq)
   exact(gT (by simp) (by first|simp -dsimp[w35];done|simp_all))
  ·have z4:¬((n:Int)<=(table.length:Int)):=auz
   cases hF
   repeat first|refine cg ?_|simp -dsimp[h2,q3,z4]
   refine lG _ (gT (by simp) (by first|simp -dsimp[h2,q3,z4];done|simp_all)) hq
theorem C.f53 (w:List Vl.Data)(r:List Int)(hF:F.f53 w=some r):PureCall Tryd.prog B 66 [am Vl.Data.c w] (am cI r):=by
 unfold F.f53 at hF
 refine pE Tryd.func66 (by kernel_rfl) rfl Tryd.ntmps66 (by simp) (by simp) ?_
 have hF:=oc hF;obtain⟨c1,hF⟩:=hF
 repeat first|refine cg ?_|simp -dsimp
 have hF:=ob hF;obtain⟨o'37,ho36,hF⟩:=hF
 refine ALoop.goU _ ?_ (((CC.f52 B hB1 hB2 w) (List.replicate ((i64.wrap ((w.length:Int)*4)).toNat) 0) 0 o'37 ho36) _ rfl _ ?_)
 ·exact(gT (by simp) (by simp -dsimp))
 cases hF
 repeat first|refine cg ?_|simp -dsimp
 all_goals(try first|omega|rfl)
theorem C.f54 (r':ZB)(list:List Int)(r:Int×ZB)(hF:F.f54 r' list=some r):MutCall Tryd.prog B 49 [am cU r'.f0,li r'.f1] [.ptr 0 0,am cI list] (li r.1) [am cU r.2.f0,li r.2.f1]:=by
 unfold F.f54 at hF
 refine MutCall.enter Tryd.func49 (by kernel_rfl) rfl Tryd.ntmps49 (by simp) (by simp) (by simp) (by simp) ?_
 repeat first|refine cg ?_|simp -dsimp
 have hF:=ob hF;obtain⟨v,e1,hF⟩:=hF
 refine((C.f1 B hB1 hB2 r' (list.length:Int) v e1)).go 0 rfl (by simp) (by simp) (by simp) ?_
 have hF:=ob hF;obtain⟨x,e2a,hF⟩:=hF
 have e2a:=ZZ e2a;obtain⟨ne2,e2⟩:=e2a
 have le2:=ZD e2
 cases hF
 repeat first|refine cg ?_|simp -dsimp[↓e2]
 all_goals(try first|omega|rfl)
theorem CC.f55 (r':ZB)(w:List Vl.Data)(table:List Int)(t:Ty)(depth:Int)(v4:List Int):(∀(fine:List Int) (i:Nat) (o:List Int),F.f55 r' w table t depth v4 fine i=some o->∀(c:Code),Zr [1,1,1,1,0,1,0,0] (ZI Tryd.f68)=some c->∀(Q:Exit->ASt->Prop),(Q (.exit 0) ⟨[(0,.ptr 0 0),(1,am Vl.Data.c w),(2,am cI table),(4,li depth),(8,.ptr 1 0),(10,.ptr 2 0),(12,.own 3 (List.length (α:=Int) o))],[.cells [am cU r'.f0,li r'.f1],.cells [li t.data,li t.index],.cells [li 0,li 0,.lit (.slice none 0 0)],.elems 1 (List.map cI o)]⟩)->ALoopU Tryd.prog B 1 98 (hold c .mk) ⟨[(0,.ptr 0 0),(1,am Vl.Data.c w),(2,am cI table),(4,li depth),(8,.ptr 1 0),(10,.ptr 2 0),(11,am cI v4),(12,.own 3 (List.length (α:=Int) fine)),(13,li (i:Int))],[.cells [am cU r'.f0,li r'.f1],.cells [li t.data,li t.index],.cells [li 0,li 0,.lit (.slice none 0 0)],.elems 1 (List.map cI fine)]⟩ (hold Q .mk)):=by
 refine F.f55.partial_correctness r' w table t depth v4
  _
  ?_
 ·intro _f_f55 ih_f55 fine i o hF
  intro c hc Q hq
  obtain rfl:c=_:=ZQ hc rfl
  refine kN fun hk hs=> ?_
  have b1:=hk 1
  simp -dsimp at b1
  have b2:=hk 2
  simp -dsimp at b2
  have b11:=hk 11
  simp -dsimp at b11
  have d0:=hs 0 _ rfl
  simp -dsimp[Blk.bnd]at d0
  have d3:=hs 3 _ rfl
  simp -dsimp[Blk.bnd]at d3
  clear hk hs
  refine eN ?_
  repeat first|refine cg ?_|simp -dsimp
  revert hF;refine aS ?_ ?_<;>intro h6 q7 hF
  ·have z8:((i:Int)<(v4.length:Int)):=auz
   repeat first|refine cg ?_|simp -dsimp[h6,z8]
   refine ADraw.simple follows (by kernel_rfl) (by kernel_rfl) ?_
   have hF:=ob hF;obtain⟨x,e9,hF⟩:=hF
   have le9:=ZD e9
   repeat first|refine cg ?_|simp -dsimp[h6,z8,↓e9]
   have hF:=ob hF;obtain⟨v10,e11,hF⟩:=hF
   refine((C.f49 B hB1 hB2 w table t x v10 e11)).pgoW (by first|simp[h6,z8,↓e9];done|simp_all) (by simp) ?_
   repeat first|refine cg ?_|simp -dsimp[h6,z8,↓e9]
   revert hF;refine aS ?_ ?_<;>intro h12 q13 hF
   ·repeat first|refine cg ?_|simp -dsimp[h6,z8,↓e9,h12]
    revert hF;refine aN ?_ ?_<;>intro h14 q15 hF
    ·repeat first|refine cg ?_|simp -dsimp[h6,z8,↓e9,h12,h14,q15]
     have hF:=ob hF;obtain⟨v16,e17,hF⟩:=hF
     refine((C.f47 B hB1 hB2 table t v16 e17)).goW (by first|simp[h6,z8,↓e9,h12,h14,q15];done|simp_all) (by simp) ?_
     repeat first|refine cg ?_|simp -dsimp[h6,z8,↓e9,h12,h14,q15]
     revert hF;refine aS ?_ ?_<;>intro h18 q19 hF
     ·have hF:=oc hF;obtain⟨c20,hF⟩:=hF
      have w21:i64.wrap ((i:Int)+1)=(i:Int)+1:=ZE (by omega) (by omega)
      repeat first|refine cg ?_|simp -dsimp[h6,z8,↓e9,h12,h14,q15,h18,w21]
      refine aG _ ?_ ((ih_f55 (fine++[x]) (i+1) o hF) _ rfl _ hq)
      exact(gT (by simp) (by first|simp -dsimp[h6,z8,↓e9,h12,h14,q15,h18,w21];done|simp_all))
     ·have w22:i64.wrap ((i:Int)+1)=(i:Int)+1:=ZE (by omega) (by omega)
      repeat first|refine cg ?_|simp -dsimp[h6,z8,↓e9,h12,h14,q15,h18,q19,w22]
      refine aG _ ?_ ((ih_f55 fine (i+1) o hF) _ rfl _ hq)
      exact(gT (by simp) (by first|simp -dsimp[h6,z8,↓e9,h12,h14,q15,h18,q19,w22];done|simp_all))
    ·have hF:=oc hF;obtain⟨c23,hF⟩:=hF
     have w24:i64.wrap ((i:Int)+1)=(i:Int)+1:=ZE (by omega) (by omega)
     repeat first|refine cg ?_|simp -dsimp[h6,z8,↓e9,h12,h14,q15,w24]
     refine aG _ ?_ ((ih_f55 (fine++[x]) (i+1) o hF) _ rfl _ hq)
     exact(gT (by simp) (by first|simp -dsimp[h6,z8,↓e9,h12,h14,q15,w24];done|simp_all))
   ·have w25:i64.wrap ((i:Int)+1)=(i:Int)+1:=ZE (by omega) (by omega)
    repeat first|refine cg ?_|simp -dsimp[h6,z8,↓e9,h12,q13,w25]
    refine aG _ ?_ ((ih_f55 fine (i+1) o hF) _ rfl _ hq)
    exact(gT (by simp) (by first|simp -dsimp[h6,z8,↓e9,h12,q13,w25];done|simp_all))
  ·have z8:¬((i:Int)<(v4.length:Int)):=auz
   cases hF
   repeat first|refine cg ?_|simp -dsimp[h6,q7,z8]
   refine lG _ (gT (by simp) (by first|simp -dsimp[h6,q7,z8];done|simp_all)) hq
theorem CC.f56 (w:List Vl.Data)(table:List Int):(∀(r':ZB) (t:Ty) (depth:Int) (r:Vl.Value×ZB),F.f56 r' w table t depth=some r->MutCall Tryd.prog B 68 [am cU r'.f0,li r'.f1] [.ptr 0 0,am Vl.Data.c w,am cI table,.agg [li t.data,li t.index],li depth] (.agg [li r.1.ctor,li r.1.n,am Vl.Value.c r.1.kids]) [am cU r.2.f0,li r.2.f1])/\
  (∀(depth:Int) (x29:Int) (v31:List Ty) (z:List Int) (z33:Int) (out:List Vl.Value) (i34:Nat) (o:(List Int)×Int×(List Vl.Value)),F.f57 w table depth x29 v31 z z33 out i34=some o->∀(c:Code),Zr [1,1,1,1,1,1,1,0,1,0,0] (ZI Tryd.f68)=some c->∀(Q:Exit->ASt->Prop),(Q (.exit 2) ⟨[(10,.ptr 2 0),(15,.ptr 4 0)],[.cells [am cU o.1,li o.2.1],.dead,.cells [li 0,li 0,.lit (.slice none 0 0)],.dead,.cells [li x29,li 0,.own 5 (List.length (α:=Vl.Value) o.2.2)],.elems 3 (List.map Vl.Value.c o.2.2)]⟩)->ALoopU Tryd.prog B 1 98 (hold c .mk) ⟨[(0,.ptr 0 0),(1,am Vl.Data.c w),(2,am cI table),(4,li depth),(10,.ptr 2 0),(15,.ptr 4 0),(16,am Ty.c v31),(17,li (i34:Int))],[.cells [am cU z,li z33],.dead,.cells [li 0,li 0,.lit (.slice none 0 0)],.dead,.cells [li x29,li 0,.own 5 (List.length (α:=Vl.Value) out)],.elems 3 (List.map Vl.Value.c out)]⟩ (hold Q .mk)):=by
 refine F.f56.mutual_partial_correctness w table
  _ _
  ?_ ?_
 ·intro _f_f57 ih_f57 r' t depth r hF
  refine MutCall.enter Tryd.func68 (by kernel_rfl) rfl Tryd.ntmps68 (by simp) (by simp) (by simp) (by simp) ?_
  repeat first|refine cg ?_|simp -dsimp
  revert hF;refine aS ?_ ?_<;>intro h1 q2 hF
  ·repeat first|refine cg ?_|simp -dsimp[h1]
   have hF:=ob hF;obtain⟨v,e3,hF⟩:=hF
   refine((C.f1 B hB1 hB2 r' 10 v e3)).go 0 rfl (by first|simp[h1];done|simp_all) (by simp) (by first|simp[h1];done|simp_all) ?_
   cases hF
   repeat first|refine cg ?_|simp -dsimp[h1]
   all_goals(try first|omega|rfl)
  ·repeat first|refine cg ?_|simp -dsimp[h1,q2]
   have hF:=ob hF;obtain⟨v4,e5,hF⟩:=hF
   refine((C.f42 B hB1 hB2 w t v4 e5)).goW (by first|simp[h1,q2];done|simp_all) (by simp) ?_
   repeat first|refine cg ?_|simp -dsimp[h1,q2]
   have hF:=ob hF;obtain⟨o',ho26,hF⟩:=hF
   refine ALoop.goU _ ?_ (((CC.f55 B hB1 hB2 r' w table t depth v4) [] 0 o' ho26) _ rfl _ ?_)
   ·exact(gT (by simp) (by first|simp -dsimp[h1,q2];done|simp_all))
   repeat first|refine cg ?_|simp -dsimp
   have hF:=ob hF;obtain⟨v27,e28,hF⟩:=hF
   refine((C.f1 B hB1 hB2 r' (o'.length:Int) v27 e28)).go 0 rfl (by simp) (by simp) (by simp) ?_
   have hF:=ob hF;obtain⟨x29,e30a,hF⟩:=hF
   have e30a:=ZZ e30a;obtain⟨ne30,e30⟩:=e30a
   have le30:=ZD e30
   repeat first|refine cg ?_|simp -dsimp[↓e30]
   have hF:=ob hF;obtain⟨v31,e32,hF⟩:=hF
   refine((C.f45 B hB1 hB2 w t x29 v31 e32)).goW (by first|simp[↓e30];done|simp_all) (by simp) ?_
   repeat first|refine cg ?_|simp -dsimp[↓e30]
   have hF:=ob hF;obtain⟨o'45,ho44,hF⟩:=hF
   refine ALoop.goU ⟨[(0,.ptr 0 0),(1,.arr (List.map Vl.Data.c w)),(2,.arr (List.map cI table)),(4,.lit (.int .i64 depth)),(10,.ptr 2 0),(15,.ptr 4 0),(16,.arr (List.map Ty.c v31)),(17,.lit (.int .i64 0))],[.cells [.arr (List.map cU v27.2.f0),.lit (.int .i64 v27.2.f1)],.dead,.cells [.lit (.int .i64 0),.lit (.int .i64 0),.lit (.slice none 0 0)],.dead,.cells [.lit (.int .i64 x29),.lit (.int .i64 0),.own 5 (List.length (α:=Vl.Value) [])],.elems 3 (List.map Vl.Value.c [])]⟩ (by refine Gh.trans (Gh.nilCell 4 2 3 (by simp -dsimp;rfl) (by simp -dsimp)) ?_;exact(gT (by simp) (by first|simp -dsimp[↓e30];done|simp_all))) ?_
   refine(ih_f57 depth x29 v31 v27.2.f0 v27.2.f1 [] 0 o'45 ho44) _ rfl _ ?_
   cases hF
   repeat first|refine cg ?_|simp -dsimp
   all_goals(try first|omega|rfl)
 ·intro _f_f56 _f_f57 ih_f56 ih_f57 depth x29 v31 z z33 out i34 o hF
  intro c hc Q hq
  obtain rfl:c=_:=ZQ hc rfl
  refine kN fun hk hs=> ?_
  have b1:=hk 1
  simp -dsimp at b1
  have b2:=hk 2
  simp -dsimp at b2
  have b16:=hk 16
  simp -dsimp at b16
  have d0:=hs 0 _ rfl
  simp -dsimp[Blk.bnd]at d0
  have d5:=hs 5 _ rfl
  simp -dsimp[Blk.bnd]at d5
  clear hk hs
  refine eN ?_
  repeat first|refine cg ?_|simp -dsimp
  revert hF;refine aS ?_ ?_<;>intro h35 q36 hF
  ·have z37:((i34:Int)<(v31.length:Int)):=auz
   repeat first|refine cg ?_|simp -dsimp[h35,z37]
   refine ADraw.eff [68] [(0,2),(0,2),(0,0),(0,0),(0,0),(0,0),(0,0),(0,0),(0,0),(0,0),(0,0),(0,4),(0,4),(0,4),(3,3),(0,4)] [0,2,1,1,1,1,1,1,1,1,1,1,1,1,1,1] follows (by kernel_rfl) (by kernel_rfl) (by kernel_rfl) ?_
   have hF:=ob hF;obtain⟨x38,e39,hF⟩:=hF
   have le39:=ZD e39
   repeat first|refine cg ?_|simp -dsimp[h35,z37,↓e39]
   have hF:=ob hF;obtain⟨v40,e41,hF⟩:=hF
   refine((ih_f56 (⟨z,z33⟩:ZB) x38 (i64.wrap (depth-1)) v40 e41)).ego 0 rfl (by first|simp[h35,z37,↓e39];done|simp_all) (by simp) (by first|simp[h35,z37,↓e39];done|simp_all) ?_
   have hF:=oc hF;obtain⟨c42,hF⟩:=hF
   have w43:i64.wrap ((i34:Int)+1)=(i34:Int)+1:=ZE (by omega) (by omega)
   repeat first|refine cg ?_|simp -dsimp[h35,z37,↓e39,w43]
   refine aG _ ?_ ((ih_f57 depth x29 v31 v40.2.f0 v40.2.f1 (out++[v40.1]) (i34+1) o hF) _ rfl _ hq)
   exact(gT (by simp) (by first|simp -dsimp[h35,z37,↓e39,w43];done|simp_all))
  ·have z37:¬((i34:Int)<(v31.length:Int)):=auz
   cases hF
   repeat first|refine cg ?_|simp -dsimp[h35,q36,z37]
   refine lG _ (gT (by simp) (by first|simp -dsimp[h35,q36,z37];done|simp_all)) hq
theorem C.f58 (r':ZB)(r:(List Vl.Data)×Ty×Vl.Value×ZB)(hF:F.f58 r'=some r):MutCall Tryd.prog B 47 [am cU r'.f0,li r'.f1] [.ptr 0 0] (.tup [am Vl.Data.c r.1,.agg [li r.2.1.data,li r.2.1.index],.agg [li r.2.2.1.ctor,li r.2.2.1.n,am Vl.Value.c r.2.2.1.kids]]) [am cU r.2.2.2.f0,li r.2.2.2.f1]:=by
 unfold F.f58 at hF
 refine MutCall.enter Tryd.func47 (by kernel_rfl) rfl Tryd.ntmps47 (by simp) (by simp) (by simp) (by simp) ?_
 repeat first|refine cg ?_|simp -dsimp
 have hF:=ob hF;obtain⟨v,e1,hF⟩:=hF
 refine((C.f39 B hB1 hB2 r' v e1)).go 0 rfl (by simp) (by simp) (by simp) ?_
 repeat first|refine cg ?_|simp -dsimp
 have hF:=ob hF;obtain⟨v2,e3,hF⟩:=hF
 refine((C.f53 B hB1 hB2 v.1 v2 e3)).goW (by simp) (by simp) ?_
 repeat first|refine cg ?_|simp -dsimp
 have hF:=ob hF;obtain⟨v4,e5,hF⟩:=hF
 refine((C.f1 B hB1 hB2 v.2 (v.1.length:Int) v4 e5)).go 0 rfl (by simp) (by simp) (by simp) ?_
 repeat first|refine cg ?_|simp -dsimp
 have hF:=ob hF;obtain⟨v6,e7,hF⟩:=hF
 refine ACall.frz ?_ ((C.f54 B hB1 hB2 v4.2 [0,0,1,2] v6 e7)).ent
 repeat first|refine cg ?_|simp -dsimp
 refine((C.f54 B hB1 hB2 v4.2 [0,0,1,2] v6 e7)).go 0 rfl (by simp) (by simp) (by simp) ?_
 repeat first|refine cg ?_|simp -dsimp
 have hF:=ob hF;obtain⟨v8,e9,hF⟩:=hF
 refine((C.f47 B hB1 hB2 v2 (⟨v4.1,v6.1⟩:Ty) v8 e9)).goW (by simp) (by simp) ?_
 repeat first|refine cg ?_|simp -dsimp
 revert hF;refine aS ?_ ?_<;>intro h10 q11 hF
 ·repeat first|refine cg ?_|simp -dsimp[eq_true h10]
  refine ADraw.eff [49,68] [(0,3),(0,3),(0,2),(0,2),(0,2),(0,2),(0,1),(0,5),(0,5),(0,5),(3,3),(0,5),(0,5)] [1,2,1,1,1,2,1,1,1,1,1,1,1] follows (by kernel_rfl) (by kernel_rfl) (by kernel_rfl) ?_
  repeat first|refine cg ?_|simp -dsimp[eq_true h10]
  have hF:=ob hF;obtain⟨v12,e13,hF⟩:=hF
  refine ECallA.frz ?_ ((C.f54 B hB1 hB2 v6.2 [3,2,4,1] v12 e13)).ent
  repeat first|refine cg ?_|simp -dsimp[eq_true h10]
  refine((C.f54 B hB1 hB2 v6.2 [3,2,4,1] v12 e13)).ego 0 rfl (by first|simp[eq_true h10];done|simp_all) (by simp) (by first|simp[eq_true h10];done|simp_all) ?_
  repeat first|refine cg ?_|simp -dsimp[eq_true h10]
  have hF:=ob hF;obtain⟨v14,e15,hF⟩:=hF
  refine(((CC.f56 B hB1 hB2 v.1 v2).1 v12.2 (⟨(-1),0⟩:Ty) v12.1 v14 e15)).ego 0 rfl (by first|simp[eq_true h10];done|simp_all) (by simp) (by first|simp[eq_true h10];done|simp_all) ?_
  cases hF
  repeat first|refine cg ?_|simp -dsimp[eq_true h10]
  all_goals(try first|omega|rfl)
 ·repeat first|refine cg ?_|simp -dsimp[h10,q11]
  refine ADraw.eff [49,68] [(0,3),(0,3),(0,2),(0,2),(0,2),(0,2),(0,1),(0,5),(0,5),(0,5),(3,3),(0,5),(0,5)] [1,2,1,1,1,2,1,1,1,1,1,1,1] follows (by kernel_rfl) (by kernel_rfl) (by kernel_rfl) ?_
  repeat first|refine cg ?_|simp -dsimp[h10,q11]
  have hF:=ob hF;obtain⟨v16,e17,hF⟩:=hF
  refine ECallA.frz ?_ ((C.f54 B hB1 hB2 v6.2 [3,2,4,1] v16 e17)).ent
  repeat first|refine cg ?_|simp -dsimp[h10,q11]
  refine((C.f54 B hB1 hB2 v6.2 [3,2,4,1] v16 e17)).ego 0 rfl (by first|simp[h10,q11];done|simp_all) (by simp) (by first|simp[h10,q11];done|simp_all) ?_
  repeat first|refine cg ?_|simp -dsimp[h10,q11]
  have hF:=ob hF;obtain⟨v18,e19,hF⟩:=hF
  refine(((CC.f56 B hB1 hB2 v.1 v2).1 v16.2 (⟨v4.1,v6.1⟩:Ty) v16.1 v18 e19)).ego 0 rfl (by first|simp[h10,q11];done|simp_all) (by simp) (by first|simp[h10,q11];done|simp_all) ?_
  cases hF
  repeat first|refine cg ?_|simp -dsimp[h10,q11]
  all_goals(try first|omega|rfl)
theorem CC.f59 (w:List Vl.Data):(∀(r':ZB) (t:Ty) (depth:Int) (r:Pattern×ZB),F.f59 r' w t depth=some r->MutCall Tryd.prog B 91 [am cU r'.f0,li r'.f1] [.ptr 0 0,am Vl.Data.c w,.agg [li t.data,li t.index],li depth] (.agg [li r.1.op,li r.1.ctor,li r.1.n,li r.1.m,li r.1.var,am Pattern.c r.1.kids]) [am cU r.2.f0,li r.2.f1])/\
  (∀(depth:Int) (x:Int) (v30:List Ty) (z:List Int) (z32:Int) (out:List Pattern) (i:Nat) (o:(List Int)×Int×(List Pattern)),F.f60 w depth x v30 z z32 out i=some o->∀(c:Code),Zr [1,1,1,1,1,1,1,1,0,1,0,0] (ZI Tryd.f91)=some c->∀(Q:Exit->ASt->Prop),(Q (.exit 0) ⟨[(8,.ptr 2 0),(11,.ptr 3 0)],[.cells [am cU o.1,li o.2.1],.dead,.cells [li 0,li 0,li 0,li 0,li 0,.lit (.slice none 0 0)],.cells [li 4,li x,li 0,li 0,li 0,.own 4 (List.length (α:=Pattern) o.2.2)],.elems 6 (List.map Pattern.c o.2.2)]⟩)->ALoopU Tryd.prog B 1 96 (hold c .mk) ⟨[(0,.ptr 0 0),(1,am Vl.Data.c w),(3,li depth),(8,.ptr 2 0),(11,.ptr 3 0),(12,am Ty.c v30),(13,li (i:Int))],[.cells [am cU z,li z32],.dead,.cells [li 0,li 0,li 0,li 0,li 0,.lit (.slice none 0 0)],.cells [li 4,li x,li 0,li 0,li 0,.own 4 (List.length (α:=Pattern) out)],.elems 6 (List.map Pattern.c out)]⟩ (hold Q .mk)):=by
 refine F.f59.mutual_partial_correctness w
  _ _
  ?_ ?_
 ·intro _f_f59 _f_f60 ih_f59 ih_f60 r' t depth r hF
  refine MutCall.enter Tryd.func91 (by kernel_rfl) rfl Tryd.ntmps91 (by simp) (by simp) (by simp) (by simp) ?_
  repeat first|refine cg ?_|simp -dsimp
  revert hF;refine aN ?_ ?_<;>intro h1 q2 hF
  ·repeat first|refine cg ?_|simp -dsimp[h1,q2]
   have hF:=ob hF;obtain⟨v,e3,hF⟩:=hF
   refine((C.f1 B hB1 hB2 r' 4 v e3)).go 0 rfl (by first|simp[h1,q2];done|simp_all) (by simp) (by first|simp[h1,q2];done|simp_all) ?_
   repeat first|refine cg ?_|simp -dsimp[h1,q2]
   revert hF;refine aS ?_ ?_<;>intro h4 q5 hF
   ·cases hF
    repeat first|refine cg ?_|simp -dsimp[h1,q2,h4]
    all_goals(try first|omega|rfl)
   ·repeat first|refine cg ?_|simp -dsimp[h1,q2,h4,q5]
    have hF:=ob hF;obtain⟨v6,e7,hF⟩:=hF
    refine((C.f1 B hB1 hB2 v.2 6 v6 e7)).go 0 rfl (by first|simp[h1,q2,h4,q5];done|simp_all) (by simp) (by first|simp[h1,q2,h4,q5];done|simp_all) ?_
    repeat first|refine cg ?_|simp -dsimp[h1,q2,h4,q5]
    revert hF;refine aS ?_ ?_<;>intro h8 q9 hF
    ·repeat first|refine cg ?_|simp -dsimp[h1,q2,h4,q5,h8]
     refine ADraw.eff [91,1000056] [(0,0),(0,0),(0,0),(0,0),(0,0),(0,5),(0,1),(0,1),(0,1),(0,1),(0,1),(0,5),(0,5),(0,5),(0,5)] [1,1,1,1,1,1,1,1,2,1,1,1,1,1,1] follows (by kernel_rfl) (by kernel_rfl) (by kernel_rfl) ?_
     repeat first|refine cg ?_|simp -dsimp[h1,q2,h4,q5,h8]
     have hF:=ob hF;obtain⟨v10,e11,hF⟩:=hF
     refine((ih_f59 v6.2 t (i64.wrap (depth-1)) v10 e11)).ego 0 rfl (by first|simp[h1,q2,h4,q5,h8];done|simp_all) (by simp) (by first|simp[h1,q2,h4,q5,h8];done|simp_all) ?_
     repeat first|refine cg ?_|simp -dsimp[h1,q2,h4,q5,h8]
     have hF:=ob hF;obtain⟨v12,e13,hF⟩:=hF
     refine((ih_f59 v10.2 t (i64.wrap (depth-1)) v12 e13)).ego 0 rfl (by first|simp[h1,q2,h4,q5,h8];done|simp_all) (by simp) (by first|simp[h1,q2,h4,q5,h8];done|simp_all) ?_
     cases hF
     repeat first|refine cg ?_|simp -dsimp[h1,q2,h4,q5,h8]
     all_goals(try first|omega|rfl)
    ·repeat first|refine cg ?_|simp -dsimp[h1,q2,h4,q5,h8,q9]
     revert hF;refine aS ?_ ?_<;>intro h14 q15 hF
     ·repeat first|refine cg ?_|simp -dsimp[h1,q2,h4,q5,h8,q9,h14]
      have hF:=ob hF;obtain⟨v16,e17,hF⟩:=hF
      refine((C.f1 B hB1 hB2 v6.2 10 v16 e17)).go 0 rfl (by first|simp[h1,q2,h4,q5,h8,q9,h14];done|simp_all) (by simp) (by first|simp[h1,q2,h4,q5,h8,q9,h14];done|simp_all) ?_
      repeat first|refine cg ?_|simp -dsimp[h1,q2,h4,q5,h8,q9,h14]
      have hF:=ob hF;obtain⟨v18,e19,hF⟩:=hF
      refine((C.f1 B hB1 hB2 v16.2 (i64.wrap (10-v16.1)) v18 e19)).go 0 rfl (by first|simp[h1,q2,h4,q5,h8,q9,h14];done|simp_all) (by simp) (by first|simp[h1,q2,h4,q5,h8,q9,h14];done|simp_all) ?_
      repeat first|refine cg ?_|simp -dsimp[h1,q2,h4,q5,h8,q9,h14]
      have hF:=ob hF;obtain⟨v20,e21,hF⟩:=hF
      refine((C.f1 B hB1 hB2 v18.2 2 v20 e21)).go 0 rfl (by first|simp[h1,q2,h4,q5,h8,q9,h14];done|simp_all) (by simp) (by first|simp[h1,q2,h4,q5,h8,q9,h14];done|simp_all) ?_
      cases hF
      repeat first|refine cg ?_|simp -dsimp[h1,q2,h4,q5,h8,q9,h14]
      all_goals(try first|omega|rfl)
     ·repeat first|refine cg ?_|simp -dsimp[h1,q2,h4,q5,h8,q9,h14,q15]
      have hF:=ob hF;obtain⟨v22,e23,hF⟩:=hF
      refine((C.f42 B hB1 hB2 w t v22 e23)).goW (by first|simp[h1,q2,h4,q5,h8,q9,h14,q15];done|simp_all) (by simp) ?_
      repeat first|refine cg ?_|simp -dsimp[h1,q2,h4,q5,h8,q9,h14,q15]
      revert hF;refine aS ?_ ?_<;>intro h24 q25 hF
      ·have z26:((v22.length:Int)=0):=auz
       cases hF
       repeat first|refine cg ?_|simp -dsimp[h1,q2,h4,q5,h8,q9,h14,q15,h24,z26]
       all_goals(try first|omega|rfl)
      ·have z26:¬((v22.length:Int)=0):=auz
       repeat first|refine cg ?_|simp -dsimp[h1,q2,h4,q5,h8,q9,h14,q15,h24,q25,z26]
       have hF:=ob hF;obtain⟨v27,e28,hF⟩:=hF
       refine((C.f1 B hB1 hB2 v6.2 (v22.length:Int) v27 e28)).go 0 rfl (by first|simp[h1,q2,h4,q5,h8,q9,h14,q15,h24,q25,z26];done|simp_all) (by simp) (by first|simp[h1,q2,h4,q5,h8,q9,h14,q15,h24,q25,z26];done|simp_all) ?_
       have hF:=ob hF;obtain⟨x,e29a,hF⟩:=hF
       have e29a:=ZZ e29a;obtain⟨ne29,e29⟩:=e29a
       have le29:=ZD e29
       repeat first|refine cg ?_|simp -dsimp[h1,q2,h4,q5,h8,q9,h14,q15,h24,q25,z26,↓e29]
       have hF:=ob hF;obtain⟨v30,e31,hF⟩:=hF
       refine((C.f45 B hB1 hB2 w t x v30 e31)).goW (by first|simp[h1,q2,h4,q5,h8,q9,h14,q15,h24,q25,z26,↓e29];done|simp_all) (by simp) ?_
       repeat first|refine cg ?_|simp -dsimp[h1,q2,h4,q5,h8,q9,h14,q15,h24,q25,z26,↓e29]
       have hF:=ob hF;obtain⟨o',ho42,hF⟩:=hF
       refine ALoop.goU ⟨[(0,.ptr 0 0),(1,.arr (List.map Vl.Data.c w)),(3,.lit (.int .i64 depth)),(8,.ptr 2 0),(11,.ptr 3 0),(12,.arr (List.map Ty.c v30)),(13,.lit (.int .i64 0))],[.cells [.arr (List.map cU v27.2.f0),.lit (.int .i64 v27.2.f1)],.dead,.cells [.lit (.int .i64 0),.lit (.int .i64 0),.lit (.int .i64 0),.lit (.int .i64 0),.lit (.int .i64 0),.lit (.slice none 0 0)],.cells [.lit (.int .i64 4),.lit (.int .i64 x),.lit (.int .i64 0),.lit (.int .i64 0),.lit (.int .i64 0),.own 4 (List.length (α:=Pattern) [])],.elems 6 (List.map Pattern.c [])]⟩ (by refine Gh.trans (Gh.nilCell 3 5 6 (by simp -dsimp;rfl) (by simp -dsimp)) ?_;exact(gT (by simp) (by first|simp -dsimp[h1,q2,h4,q5,h8,q9,h14,q15,h24,q25,z26,↓e29];done|simp_all))) ?_
       refine(ih_f60 depth x v30 v27.2.f0 v27.2.f1 [] 0 o' ho42) _ rfl _ ?_
       cases hF
       repeat first|refine cg ?_|simp -dsimp
       all_goals(try first|omega|rfl)
  ·cases hF
   repeat first|refine cg ?_|simp -dsimp[h1,q2]
   all_goals(try first|omega|rfl)
 ·intro _f_f59 _f_f60 ih_f59 ih_f60 depth x v30 z z32 out i o hF
  intro c hc Q hq
  obtain rfl:c=_:=ZQ hc rfl
  refine kN fun hk hs=> ?_
  have b1:=hk 1
  simp -dsimp at b1
  have b12:=hk 12
  simp -dsimp at b12
  have d0:=hs 0 _ rfl
  simp -dsimp[Blk.bnd]at d0
  have d4:=hs 4 _ rfl
  simp -dsimp[Blk.bnd]at d4
  clear hk hs
  refine eN ?_
  repeat first|refine cg ?_|simp -dsimp
  revert hF;refine aS ?_ ?_<;>intro h33 q34 hF
  ·have z35:((i:Int)<(v30.length:Int)):=auz
   repeat first|refine cg ?_|simp -dsimp[h33,z35]
   refine ADraw.eff [91] [(0,2),(0,2),(0,0),(0,0),(0,0),(0,0),(0,0),(0,0),(0,0),(0,0),(0,4),(0,4),(0,4),(3,3),(0,4)] [0,2,1,1,1,1,1,1,1,1,1,1,1,1,1] follows (by kernel_rfl) (by kernel_rfl) (by kernel_rfl) ?_
   have hF:=ob hF;obtain⟨x36,e37,hF⟩:=hF
   have le37:=ZD e37
   repeat first|refine cg ?_|simp -dsimp[h33,z35,↓e37]
   have hF:=ob hF;obtain⟨v38,e39,hF⟩:=hF
   refine((ih_f59 (⟨z,z32⟩:ZB) x36 (i64.wrap (depth-1)) v38 e39)).ego 0 rfl (by first|simp[h33,z35,↓e37];done|simp_all) (by simp) (by first|simp[h33,z35,↓e37];done|simp_all) ?_
   have hF:=oc hF;obtain⟨c40,hF⟩:=hF
   have w41:i64.wrap ((i:Int)+1)=(i:Int)+1:=ZE (by omega) (by omega)
   repeat first|refine cg ?_|simp -dsimp[h33,z35,↓e37,w41]
   refine aG _ ?_ ((ih_f60 depth x v30 v38.2.f0 v38.2.f1 (out++[v38.1]) (i+1) o hF) _ rfl _ hq)
   exact(gT (by simp) (by first|simp -dsimp[h33,z35,↓e37,w41];done|simp_all))
  ·have z35:¬((i:Int)<(v30.length:Int)):=auz
   cases hF
   repeat first|refine cg ?_|simp -dsimp[h33,q34,z35]
   refine lG _ (gT (by simp) (by first|simp -dsimp[h33,q34,z35];done|simp_all)) hq
theorem CC.f61  :(∀(r':ZB) (p:Pattern) (n:Int) (r:Pattern×Int×ZB),F.f61 r' p n=some r->MutCall Tryd.prog B 90 [am cU r'.f0,li r'.f1] [.ptr 0 0,.agg [li p.op,li p.ctor,li p.n,li p.m,li p.var,am Pattern.c p.kids],li n] (.tup [.agg [li r.1.op,li r.1.ctor,li r.1.n,li r.1.m,li r.1.var,am Pattern.c r.1.kids],li r.2.1]) [am cU r.2.2.f0,li r.2.2.f1])/\
  (∀(p:Pattern) (n:Int) (z28:List Int) (z29:Int) (out30:List Pattern) (i31:Nat) (next32:Int) (o:(List Int)×Int×(List Pattern)×Int),F.f63 p n z28 z29 out30 i31 next32=some o->∀(c:Code),Zr [1,1,1,1,1,1,0,1,0,0] (ZI Tryd.f90)=some c->∀(Q:Exit->ASt->Prop),(Q (.exit 0) ⟨[(0,.ptr 0 0),(6,.ptr 2 0),(8,.ptr 3 0),(9,li o.2.2.2)],[.cells [am cU o.1,li o.2.1],.dead,.cells [li 0,li 0,li 0,li 0,li 0,.lit (.slice none 0 0)],.cells [li p.op,li p.ctor,li p.n,li p.m,li p.var,.own 4 (List.length (α:=Pattern) o.2.2.1)],.elems 6 (List.map Pattern.c o.2.2.1)]⟩)->ALoopU Tryd.prog B 1 82 (hold c .mk) ⟨[(0,.ptr 0 0),(4,.ptr 1 0),(6,.ptr 2 0),(8,.ptr 3 0),(9,li next32),(10,li (i31:Int))],[.cells [am cU z28,li z29],.cells [li p.op,li p.ctor,li p.n,li p.m,li p.var,am Pattern.c p.kids],.cells [li 0,li 0,li 0,li 0,li 0,.lit (.slice none 0 0)],.cells [li p.op,li p.ctor,li p.n,li p.m,li p.var,.own 4 (List.length (α:=Pattern) out30)],.elems 6 (List.map Pattern.c out30)]⟩ (hold Q .mk))/\
  (∀(p:Pattern) (n:Int) (z:List Int) (z12:Int) (out:List Pattern) (i:Nat) (next:Int) (o:(List Int)×Int×(List Pattern)×Int),F.f62 p n z z12 out i next=some o->∀(c:Code),Zr [1,1,1,1,1,1,0,1,0,0] (ZI Tryd.f90)=some c->∀(Q:Exit->ASt->Prop),(Q (.exit 0) ⟨[(0,.ptr 0 0),(6,.ptr 2 0),(8,.ptr 3 0),(9,li o.2.2.2)],[.cells [am cU o.1,li o.2.1],.dead,.cells [li 0,li 0,li 0,li 0,li 0,.lit (.slice none 0 0)],.cells [li p.op,li p.ctor,li p.n,li p.m,li p.var,.own 4 (List.length (α:=Pattern) o.2.2.1)],.elems 6 (List.map Pattern.c o.2.2.1)]⟩)->ALoopU Tryd.prog B 1 82 (hold c .mk) ⟨[(0,.ptr 0 0),(4,.ptr 1 0),(6,.ptr 2 0),(8,.ptr 3 0),(9,li next),(10,li (i:Int))],[.cells [am cU z,li z12],.cells [li p.op,li p.ctor,li p.n,li p.m,li p.var,am Pattern.c p.kids],.cells [li 0,li 0,li 0,li 0,li 0,.lit (.slice none 0 0)],.cells [li p.op,li p.ctor,li p.n,li p.m,li p.var,.own 4 (List.length (α:=Pattern) out)],.elems 6 (List.map Pattern.c out)]⟩ (hold Q .mk)):=by
 refine F.f61.mutual_partial_correctness 
  _ _ _
  ?_ ?_ ?_
 ·intro _f_f63 _f_f62 ih_f63 ih_f62 r' p n r hF
  refine MutCall.enter Tryd.func90 (by kernel_rfl) rfl Tryd.ntmps90 (by simp) (by simp) (by simp) (by simp) ?_
  repeat first|refine cg ?_|simp -dsimp
  revert hF;refine aN ?_ ?_<;>intro h1 q2 hF
  ·repeat first|refine cg ?_|simp -dsimp[h1,q2]
   revert hF;refine aN ?_ ?_<;>intro h3 q4 hF
   ·repeat first|refine cg ?_|simp -dsimp[h1,q2,h3,q4]
    revert hF;refine aS ?_ ?_<;>intro h5 q6 hF
    ·cases hF
     repeat first|refine cg ?_|simp -dsimp[h1,q2,h3,q4,h5]
     all_goals(try first|omega|rfl)
    ·repeat first|refine cg ?_|simp -dsimp[h1,q2,h3,q4,h5,q6]
     revert hF;refine aS ?_ ?_<;>intro h7 q8 hF
     ·repeat first|refine cg ?_|simp -dsimp[h1,q2,h3,q4,h5,q6,h7]
      have hF:=ob hF;obtain⟨v,e9,hF⟩:=hF
      refine((C.f1 B hB1 hB2 r' 2 v e9)).go 0 rfl (by first|simp[h1,q2,h3,q4,h5,q6,h7];done|simp_all) (by simp) (by first|simp[h1,q2,h3,q4,h5,q6,h7];done|simp_all) ?_
      repeat first|refine cg ?_|simp -dsimp[h1,q2,h3,q4,h5,q6,h7]
      revert hF;refine aS ?_ ?_<;>intro h10 q11 hF
      ·cases hF
       repeat first|refine cg ?_|simp -dsimp[h1,q2,h3,q4,h5,q6,h7,h10]
       all_goals(try first|omega|rfl)
      ·repeat first|refine cg ?_|simp -dsimp[h1,q2,h3,q4,h5,q6,h7,h10,q11]
       have hF:=ob hF;obtain⟨o',ho21,hF⟩:=hF
       refine ALoop.goU ⟨[(0,.ptr 0 0),(4,.ptr 1 0),(6,.ptr 2 0),(8,.ptr 3 0),(9,.lit (.int .i64 n)),(10,.lit (.int .i64 0))],[.cells [.arr (List.map cU v.2.f0),.lit (.int .i64 v.2.f1)],.cells [.lit (.int .i64 p.op),.lit (.int .i64 p.ctor),.lit (.int .i64 p.n),.lit (.int .i64 p.m),.lit (.int .i64 p.var),.arr (List.map Pattern.c p.kids)],.cells [.lit (.int .i64 0),.lit (.int .i64 0),.lit (.int .i64 0),.lit (.int .i64 0),.lit (.int .i64 0),.lit (.slice none 0 0)],.cells [.lit (.int .i64 p.op),.lit (.int .i64 p.ctor),.lit (.int .i64 p.n),.lit (.int .i64 p.m),.lit (.int .i64 p.var),.own 4 (List.length (α:=Pattern) [])],.elems 6 (List.map Pattern.c [])]⟩ (by refine Gh.trans (Gh.nilCell 3 5 6 (by simp -dsimp;rfl) (by simp -dsimp)) ?_;exact(gT (by simp) (by first|simp -dsimp[h1,q2,h3,q4,h5,q6,h7,h10,q11];done|simp_all))) ?_
       refine(ih_f62 p n v.2.f0 v.2.f1 [] 0 n o' ho21) _ rfl _ ?_
       repeat first|refine cg ?_|simp -dsimp
       revert hF;refine aS ?_ ?_<;>intro h22 q23 hF
       ·repeat first|refine cg ?_|simp -dsimp[h22]
        have hF:=ob hF;obtain⟨v24,e25,hF⟩:=hF
        refine((C.f1 B hB1 hB2 (⟨o'.1,o'.2.1⟩:ZB) 6 v24 e25)).go 0 rfl (by first|simp[h22];done|simp_all) (by simp) (by first|simp[h22];done|simp_all) ?_
        repeat first|refine cg ?_|simp -dsimp[h22]
        revert hF;refine aS ?_ ?_<;>intro h26 q27 hF
        ·cases hF
         repeat first|refine cg ?_|simp -dsimp[h22,h26]
         all_goals(try first|omega|rfl)
        ·cases hF
         repeat first|refine cg ?_|simp -dsimp[h22,h26,q27]
         all_goals(try first|omega|rfl)
       ·cases hF
        repeat first|refine cg ?_|simp -dsimp[h22,q23]
        all_goals(try first|omega|rfl)
     ·repeat first|refine cg ?_|simp -dsimp[h1,q2,h3,q4,h5,q6,h7,q8]
      have hF:=ob hF;obtain⟨o'43,ho42,hF⟩:=hF
      refine ALoop.goU ⟨[(0,.ptr 0 0),(4,.ptr 1 0),(6,.ptr 2 0),(8,.ptr 3 0),(9,.lit (.int .i64 n)),(10,.lit (.int .i64 0))],[.cells [.arr (List.map cU r'.f0),.lit (.int .i64 r'.f1)],.cells [.lit (.int .i64 p.op),.lit (.int .i64 p.ctor),.lit (.int .i64 p.n),.lit (.int .i64 p.m),.lit (.int .i64 p.var),.arr (List.map Pattern.c p.kids)],.cells [.lit (.int .i64 0),.lit (.int .i64 0),.lit (.int .i64 0),.lit (.int .i64 0),.lit (.int .i64 0),.lit (.slice none 0 0)],.cells [.lit (.int .i64 p.op),.lit (.int .i64 p.ctor),.lit (.int .i64 p.n),.lit (.int .i64 p.m),.lit (.int .i64 p.var),.own 4 (List.length (α:=Pattern) [])],.elems 6 (List.map Pattern.c [])]⟩ (by refine Gh.trans (Gh.nilCell 3 5 6 (by simp -dsimp;rfl) (by simp -dsimp)) ?_;exact(gT (by simp) (by first|simp -dsimp[h1,q2,h3,q4,h5,q6,h7,q8];done|simp_all))) ?_
      refine(ih_f63 p n r'.f0 r'.f1 [] 0 n o'43 ho42) _ rfl _ ?_
      repeat first|refine cg ?_|simp -dsimp
      revert hF;refine aS ?_ ?_<;>intro h44 q45 hF
      ·repeat first|refine cg ?_|simp -dsimp[h44]
       have hF:=ob hF;obtain⟨v46,e47,hF⟩:=hF
       refine((C.f1 B hB1 hB2 (⟨o'43.1,o'43.2.1⟩:ZB) 6 v46 e47)).go 0 rfl (by first|simp[h44];done|simp_all) (by simp) (by first|simp[h44];done|simp_all) ?_
       repeat first|refine cg ?_|simp -dsimp[h44]
       revert hF;refine aS ?_ ?_<;>intro h48 q49 hF
       ·cases hF
        repeat first|refine cg ?_|simp -dsimp[h44,h48]
        all_goals(try first|omega|rfl)
       ·cases hF
        repeat first|refine cg ?_|simp -dsimp[h44,h48,q49]
        all_goals(try first|omega|rfl)
      ·cases hF
       repeat first|refine cg ?_|simp -dsimp[h44,q45]
       all_goals(try first|omega|rfl)
   ·cases hF
    repeat first|refine cg ?_|simp -dsimp[h1,q2,h3,q4]
    all_goals(try first|omega|rfl)
  ·cases hF
   repeat first|refine cg ?_|simp -dsimp[h1,q2]
   all_goals(try first|omega|rfl)
 ·intro _f_f61 _f_f63 ih_f61 ih_f63 p n z28 z29 out30 i31 next32 o hF
  intro c hc Q hq
  obtain rfl:c=_:=ZQ hc rfl
  refine kN fun hk hs=> ?_
  have d0:=hs 0 _ rfl
  simp -dsimp[Blk.bnd]at d0
  have d1:=hs 1 _ rfl
  simp -dsimp[Blk.bnd]at d1
  have d4:=hs 4 _ rfl
  simp -dsimp[Blk.bnd]at d4
  clear hk hs
  refine eN ?_
  repeat first|refine cg ?_|simp -dsimp
  revert hF;refine aS ?_ ?_<;>intro h33 q34 hF
  ·have z35:((i31:Int)<(p.kids.length:Int)):=auz
   have hF:=ob hF;obtain⟨x36,e37,hF⟩:=hF
   have le37:=ZD e37
   repeat first|refine cg ?_|simp -dsimp[h33,z35,↓e37]
   have hF:=ob hF;obtain⟨v38,e39,hF⟩:=hF
   refine((ih_f61 (⟨z28,z29⟩:ZB) x36 next32 v38 e39)).go 0 rfl (by first|simp[h33,z35,↓e37];done|simp_all) (by simp) (by first|simp[h33,z35,↓e37];done|simp_all) ?_
   have hF:=oc hF;obtain⟨c40,hF⟩:=hF
   have w41:i64.wrap ((i31:Int)+1)=(i31:Int)+1:=ZE (by omega) (by omega)
   repeat first|refine cg ?_|simp -dsimp[h33,z35,↓e37,w41]
   refine aG _ ?_ ((ih_f63 p n v38.2.2.f0 v38.2.2.f1 (out30++[v38.1]) (i31+1) v38.2.1 o hF) _ rfl _ hq)
   exact(gT (by simp) (by first|simp -dsimp[h33,z35,↓e37,w41];done|simp_all))
  ·have z35:¬((i31:Int)<(p.kids.length:Int)):=auz
   cases hF
   repeat first|refine cg ?_|simp -dsimp[h33,q34,z35]
   refine lG _ (gT (by simp) (by first|simp -dsimp[h33,q34,z35];done|simp_all)) hq
 ·intro _f_f61 _f_f62 ih_f61 ih_f62 p n z z12 out i next o hF
  intro c hc Q hq
  obtain rfl:c=_:=ZQ hc rfl
  refine kN fun hk hs=> ?_
  have d0:=hs 0 _ rfl
  simp -dsimp[Blk.bnd]at d0
  have d1:=hs 1 _ rfl
  simp -dsimp[Blk.bnd]at d1
  have d4:=hs 4 _ rfl
  simp -dsimp[Blk.bnd]at d4
  clear hk hs
  refine eN ?_
  repeat first|refine cg ?_|simp -dsimp
  revert hF;refine aS ?_ ?_<;>intro h13 q14 hF
  ·have z15:((i:Int)<(p.kids.length:Int)):=auz
   have hF:=ob hF;obtain⟨x,e16,hF⟩:=hF
   have le16:=ZD e16
   repeat first|refine cg ?_|simp -dsimp[h13,z15,↓e16]
   have hF:=ob hF;obtain⟨v17,e18,hF⟩:=hF
   refine((ih_f61 (⟨z,z12⟩:ZB) x next v17 e18)).go 0 rfl (by first|simp[h13,z15,↓e16];done|simp_all) (by simp) (by first|simp[h13,z15,↓e16];done|simp_all) ?_
   have hF:=oc hF;obtain⟨c19,hF⟩:=hF
   have w20:i64.wrap ((i:Int)+1)=(i:Int)+1:=ZE (by omega) (by omega)
   repeat first|refine cg ?_|simp -dsimp[h13,z15,↓e16,w20]
   refine aG _ ?_ ((ih_f62 p n v17.2.2.f0 v17.2.2.f1 (out++[v17.1]) (i+1) v17.2.1 o hF) _ rfl _ hq)
   exact(gT (by simp) (by first|simp -dsimp[h13,z15,↓e16,w20];done|simp_all))
  ·have z15:¬((i:Int)<(p.kids.length:Int)):=auz
   cases hF
   repeat first|refine cg ?_|simp -dsimp[h13,q14,z15]
   refine lG _ (gT (by simp) (by first|simp -dsimp[h13,q14,z15];done|simp_all)) hq
theorem CC.f64 (list:List Int)(n:Int):(∀(i:Nat) (o:Lo Bool Unit),F.f64 list n i=some o->∀(c:Code),Zr [1,0,1,0,0] (ZI Tryd.f84)=some c->∀(Q:Exit->ASt->Prop),o.post (fun r=>∀st,ZCf Tryd.prog Tryd.f84 (fun r' _=>r'.le (.lit (.bool r))) .ret st->Q .ret st) (fun s=>Q (.exit 0) ⟨[],[]⟩)->ALoopU Tryd.prog B 0 18 (hold c .mk) ⟨[(0,am cI list),(1,li n),(5,li (i:Int))],[]⟩ (hold Q .mk)):=by
 refine F.f64.partial_correctness list n
  _
  ?_
 ·intro _f_f64 ih_f64 i o hF
  intro c hc Q hq
  obtain rfl:c=_:=ZQ hc rfl
  refine kN fun hk hs=> ?_
  have b0:=hk 0
  simp -dsimp at b0
  clear hk hs
  refine eN ?_
  repeat first|refine cg ?_|simp -dsimp
  revert hF;refine aS ?_ ?_<;>intro h1 q2 hF
  ·have z3:((i:Int)<(list.length:Int)):=auz
   have hF:=ob hF;obtain⟨x,e4,hF⟩:=hF
   have le4:=ZD e4
   repeat first|refine cg ?_|simp -dsimp[h1,z3,↓e4]
   revert hF;refine aS ?_ ?_<;>intro h5 q6 hF
   ·cases hF
    repeat first|refine cg ?_|simp -dsimp[h1,z3,↓e4,h5]
    refine lG _ (gR _) (hq _ ?_)
    repeat first|refine cg ?_|simp -dsimp[h1,z3,↓e4,h5]
   ·have w7:i64.wrap ((i:Int)+1)=(i:Int)+1:=ZE (by omega) (by omega)
    repeat first|refine cg ?_|simp -dsimp[h1,z3,↓e4,h5,q6,w7]
    refine aG _ ?_ ((ih_f64 (i+1) o hF) _ rfl _ hq)
    exact(gT (by simp) (by first|simp -dsimp[h1,z3,↓e4,h5,q6,w7];done|simp_all))
  ·have z3:¬((i:Int)<(list.length:Int)):=auz
   cases hF
   repeat first|refine cg ?_|simp -dsimp[h1,q2,z3]
   refine lG _ (gT (by simp) (by first|simp -dsimp[h1,q2,z3];done|simp_all)) hq
theorem C.f65 (list:List Int)(n:Int)(r:Bool)(hF:F.f65 list n=some r):PureCall Tryd.prog B 84 [am cI list,li n] (.lit (.bool r)):=by
 unfold F.f65 at hF
 refine pE Tryd.func84 (by kernel_rfl) rfl Tryd.ntmps84 (by simp) (by simp) ?_
 repeat first|refine cg ?_|simp -dsimp
 have hF:=ob hF;obtain⟨o',ho8,hF⟩:=hF
 refine ALoop.goU _ ?_ (((CC.f64 B hB1 hB2 list n) 0 o' ho8) _ rfl _ ?_)
 ·exact(gT (by simp) (by simp -dsimp))
 rcases o' with r0|sx
 ·dsimp only at hF
  cases hF
  intro st h
  simpa using h
 ·dsimp only at hF
  cases hF
  repeat first|refine cg ?_|simp -dsimp
  all_goals(try first|omega|rfl)
theorem C.f66 (w:List Vl.Data)(t:Ty)(p:Pattern)(r:Bool)(hF:F.f66 w t p=some r):PureCall Tryd.prog B 72 [am Vl.Data.c w,.agg [li t.data,li t.index],.agg [li p.op,li p.ctor,li p.n,li p.m,li p.var,am Pattern.c p.kids]] (.lit (.bool r)):=by
 unfold F.f66 at hF
 refine pE Tryd.func72 (by kernel_rfl) rfl Tryd.ntmps72 (by simp) (by simp) ?_
 repeat first|refine cg ?_|simp -dsimp
 revert hF;refine aN ?_ ?_<;>intro h1 q2 hF
 ·repeat first|refine cg ?_|simp -dsimp[h1,q2]
  revert hF;refine aS ?_ ?_<;>intro h3 q4 hF
  ·repeat first|refine cg ?_|simp -dsimp[h1,q2,h3]
   revert hF;refine aN ?_ ?_<;>intro h5 q6 hF
   ·repeat first|refine cg ?_|simp -dsimp[h1,q2,h3,h5,q6]
    revert hF;refine aN ?_ ?_<;>intro h7 q8 hF
    ·have n9:¬(p.op=3):=by omega
     repeat first|refine cg ?_|simp -dsimp[h1,q2,h3,h5,q6,h7,q8,n9]
     revert hF;refine aS ?_ ?_<;>intro h10 q11 hF
     ·repeat first|refine cg ?_|simp -dsimp[h1,q2,h3,h5,q6,h7,q8,n9,h10]
      revert hF;refine aS ?_ ?_<;>intro h12 q13 hF
      ·have n14:¬(p.op=4):=by omega
       repeat first|refine cg ?_|simp -dsimp[h1,q2,h3,h5,q6,h7,q8,n9,h10,h12,n14]
       revert hF;refine aN ?_ ?_<;>intro h15 q16 hF
       ·cases hF
        repeat first|refine cg ?_|simp -dsimp[h1,q2,h3,h5,q6,h7,q8,n9,h10,h12,n14,h15,q16]
        all_goals(try first|omega|rfl)
       ·have n17:¬(p.op=1):=by omega
        have n18:¬(p.op=5):=by omega
        cases hF
        repeat first|refine cg ?_|simp -dsimp[h1,q2,h3,h5,q6,h7,q8,n9,h10,h12,n14,h15,q16,n17,n18]
        all_goals(try first|omega|rfl)
      ·cases hF
       repeat first|refine cg ?_|simp -dsimp[h1,q2,h3,h5,q6,h7,q8,n9,h10,h12,q13]
       all_goals(try first|omega|rfl)
     ·cases hF
      repeat first|refine cg ?_|simp -dsimp[h1,q2,h3,h5,q6,h7,q8,n9,h10,q11]
      all_goals(try first|omega|rfl)
    ·cases hF
     repeat first|refine cg ?_|simp -dsimp[h1,q2,h3,h5,q6,h7,q8]
     all_goals(try first|omega|rfl)
   ·cases hF
    repeat first|refine cg ?_|simp -dsimp[h1,q2,h3,h5,q6]
    all_goals(try first|omega|rfl)
  ·repeat first|refine cg ?_|simp -dsimp[h1,q2,h3,q4]
   revert hF;refine aN ?_ ?_<;>intro h19 q20 hF
   ·cases hF
    repeat first|refine cg ?_|simp -dsimp[h1,q2,h3,q4,h19,q20]
    all_goals(try first|omega|rfl)
   ·repeat first|refine cg ?_|simp -dsimp[h1,q2,h3,q4,h19,q20]
    revert hF;refine aN ?_ ?_<;>intro h21 q22 hF
    ·repeat first|refine cg ?_|simp -dsimp[h1,q2,h3,q4,h19,q20,h21,q22]
     revert hF;refine aS ?_ ?_<;>intro h23 q24 hF
     ·repeat first|refine cg ?_|simp -dsimp[h1,q2,h3,q4,h19,q20,h21,q22,h23]
      revert hF;refine aS ?_ ?_<;>intro h25 q26 hF
      ·repeat first|refine cg ?_|simp -dsimp[h1,q2,h3,q4,h19,q20,h21,q22,h23,h25]
       revert hF;refine aN ?_ ?_<;>intro h27 q28 hF
       ·repeat first|refine cg ?_|simp -dsimp[h1,q2,h3,q4,h19,q20,h21,q22,h23,h25,h27,q28]
        revert hF;refine aN ?_ ?_<;>intro h29 q30 hF
        ·cases hF
         repeat first|refine cg ?_|simp -dsimp[h1,q2,h3,q4,h19,q20,h21,q22,h23,h25,h27,q28,h29,q30]
         all_goals(try first|omega|rfl)
        ·repeat first|refine cg ?_|simp -dsimp[h1,q2,h3,q4,h19,q20,h21,q22,h23,h25,h27,q28,h29,q30]
         revert hF;refine aS ?_ ?_<;>intro h31 q32 hF
         ·cases hF
          repeat first|refine cg ?_|simp -dsimp[h1,q2,h3,q4,h19,q20,h21,q22,h23,h25,h27,q28,h29,q30,h31]
          all_goals(try first|omega|rfl)
         ·repeat first|refine cg ?_|simp -dsimp[h1,q2,h3,q4,h19,q20,h21,q22,h23,h25,h27,q28,h29,q30,h31,q32]
          revert hF;refine aS ?_ ?_<;>intro h33 q34 hF
          ·cases hF
           repeat first|refine cg ?_|simp -dsimp[h1,q2,h3,q4,h19,q20,h21,q22,h23,h25,h27,q28,h29,q30,h31,q32,h33]
           all_goals(try first|omega|rfl)
          ·cases hF
           repeat first|refine cg ?_|simp -dsimp[h1,q2,h3,q4,h19,q20,h21,q22,h23,h25,h27,q28,h29,q30,h31,q32,h33,q34]
           all_goals(try first|omega|rfl)
       ·have n35:¬(p.op=1):=by omega
        have n36:¬(p.op=5):=by omega
        repeat first|refine cg ?_|simp -dsimp[h1,q2,h3,q4,h19,q20,h21,q22,h23,h25,h27,q28,n35,n36]
        refine ADraw.simple follows (by kernel_rfl) (by kernel_rfl) ?_
        repeat first|refine cg ?_|simp -dsimp[h1,q2,h3,q4,h19,q20,h21,q22,h23,h25,h27,q28,n35,n36]
        have hF:=ob hF;obtain⟨v,e37,hF⟩:=hF
        refine((C.f42 B hB1 hB2 w t v e37)).pgoW (by first|simp[h1,q2,h3,q4,h19,q20,h21,q22,h23,h25,h27,q28,n35,n36];done|simp_all) (by simp) ?_
        repeat first|refine cg ?_|simp -dsimp[h1,q2,h3,q4,h19,q20,h21,q22,h23,h25,h27,q28,n35,n36]
        have hF:=ob hF;obtain⟨v38,e39,hF⟩:=hF
        refine((C.f65 B hB1 hB2 v p.ctor v38 e39)).pgoW (by first|simp[h1,q2,h3,q4,h19,q20,h21,q22,h23,h25,h27,q28,n35,n36];done|simp_all) (by simp) ?_
        cases hF
        repeat first|refine cg ?_|simp -dsimp[h1,q2,h3,q4,h19,q20,h21,q22,h23,h25,h27,q28,n35,n36]
        all_goals(try first|omega|rfl)
      ·cases hF
       repeat first|refine cg ?_|simp -dsimp[h1,q2,h3,q4,h19,q20,h21,q22,h23,h25,q26]
       all_goals(try first|omega|rfl)
     ·cases hF
      repeat first|refine cg ?_|simp -dsimp[h1,q2,h3,q4,h19,q20,h21,q22,h23,q24]
      all_goals(try first|omega|rfl)
    ·have n40:¬(p.op=4):=by omega
     repeat first|refine cg ?_|simp -dsimp[h1,q2,h3,q4,h19,q20,h21,q22,n40]
     revert hF;refine aN ?_ ?_<;>intro h41 q42 hF
     ·cases hF
      repeat first|refine cg ?_|simp -dsimp[h1,q2,h3,q4,h19,q20,h21,q22,n40,h41,q42]
      all_goals(try first|omega|rfl)
     ·have n43:¬(p.op=1):=by omega
      have n44:¬(p.op=5):=by omega
      repeat first|refine cg ?_|simp -dsimp[h1,q2,h3,q4,h19,q20,h21,q22,n40,h41,q42,n43,n44]
      revert hF;refine aS ?_ ?_<;>intro h45 q46 hF
      ·repeat first|refine cg ?_|simp -dsimp[h1,q2,h3,q4,h19,q20,h21,q22,n40,h41,q42,n43,n44,h45]
       revert hF;refine aS ?_ ?_<;>intro h47 q48 hF
       ·repeat first|refine cg ?_|simp -dsimp[h1,q2,h3,q4,h19,q20,h21,q22,n40,h41,q42,n43,n44,h45,h47]
        revert hF;refine aS ?_ ?_<;>intro h49 q50 hF
        ·cases hF
         repeat first|refine cg ?_|simp -dsimp[h1,q2,h3,q4,h19,q20,h21,q22,n40,h41,q42,n43,n44,h45,h47,h49]
         all_goals(try first|omega|rfl)
        ·cases hF
         repeat first|refine cg ?_|simp -dsimp[h1,q2,h3,q4,h19,q20,h21,q22,n40,h41,q42,n43,n44,h45,h47,h49,q50]
         all_goals(try first|omega|rfl)
       ·cases hF
        repeat first|refine cg ?_|simp -dsimp[h1,q2,h3,q4,h19,q20,h21,q22,n40,h41,q42,n43,n44,h45,h47,q48]
        all_goals(try first|omega|rfl)
      ·cases hF
       repeat first|refine cg ?_|simp -dsimp[h1,q2,h3,q4,h19,q20,h21,q22,n40,h41,q42,n43,n44,h45,q46]
       all_goals(try first|omega|rfl)
 ·repeat first|refine cg ?_|simp -dsimp[h1,q2]
  revert hF;refine aN ?_ ?_<;>intro h51 q52 hF
  ·repeat first|refine cg ?_|simp -dsimp[h1,q2,h51,q52]
   revert hF;refine aN ?_ ?_<;>intro h53 q54 hF
   ·have n55:¬(p.op=3):=by omega
    repeat first|refine cg ?_|simp -dsimp[h1,q2,h51,q52,h53,q54,n55]
    revert hF;refine aS ?_ ?_<;>intro h56 q57 hF
    ·repeat first|refine cg ?_|simp -dsimp[h1,q2,h51,q52,h53,q54,n55,h56]
     revert hF;refine aS ?_ ?_<;>intro h58 q59 hF
     ·have n60:¬(p.op=4):=by omega
      repeat first|refine cg ?_|simp -dsimp[h1,q2,h51,q52,h53,q54,n55,h56,h58,n60]
      revert hF;refine aN ?_ ?_<;>intro h61 q62 hF
      ·cases hF
       repeat first|refine cg ?_|simp -dsimp[h1,q2,h51,q52,h53,q54,n55,h56,h58,n60,h61,q62]
       all_goals(try first|omega|rfl)
      ·have n63:¬(p.op=1):=by omega
       cases hF
       repeat first|refine cg ?_|simp -dsimp[h1,q2,h51,q52,h53,q54,n55,h56,h58,n60,h61,q62,n63]
       all_goals(try first|omega|rfl)
     ·cases hF
      repeat first|refine cg ?_|simp -dsimp[h1,q2,h51,q52,h53,q54,n55,h56,h58,q59]
      all_goals(try first|omega|rfl)
    ·cases hF
     repeat first|refine cg ?_|simp -dsimp[h1,q2,h51,q52,h53,q54,n55,h56,q57]
     all_goals(try first|omega|rfl)
   ·cases hF
    repeat first|refine cg ?_|simp -dsimp[h1,q2,h51,q52,h53,q54]
    all_goals(try first|omega|rfl)
  ·cases hF
   repeat first|refine cg ?_|simp -dsimp[h1,q2,h51,q52]
   all_goals(try first|omega|rfl)
theorem C.f67 (op:Int)(r:Int)(hF:F.f67 op=some r):PureCall Tryd.prog B 75 [li op] (li r):=by
 unfold F.f67 at hF
 refine pE Tryd.func75 (by kernel_rfl) rfl Tryd.ntmps75 (by simp) (by simp) ?_
 repeat first|refine cg ?_|simp -dsimp
 revert hF;refine aS ?_ ?_<;>intro h1 q2 hF
 ·cases hF
  repeat first|refine cg ?_|simp -dsimp[eq_true h1]
  all_goals(try first|omega|rfl)
 ·repeat first|refine cg ?_|simp -dsimp[h1,q2]
  revert hF;refine aS ?_ ?_<;>intro h3 q4 hF
  ·cases hF
   repeat first|refine cg ?_|simp -dsimp[h1,q2,eq_true h3]
   all_goals(try first|omega|rfl)
  ·repeat first|refine cg ?_|simp -dsimp[h1,q2,h3,q4]
   revert hF;refine aS ?_ ?_<;>intro h5 q6 hF
   ·cases hF
    repeat first|refine cg ?_|simp -dsimp[h1,q2,h3,q4,eq_true h5]
    all_goals(try first|omega|rfl)
   ·cases hF
    repeat first|refine cg ?_|simp -dsimp[h1,q2,h3,q4,h5,q6]
    all_goals(try first|omega|rfl)
theorem CC.f68 (t:Ty)(p:Pattern):(∀(out:List Ty) (i:Nat) (o:List Ty),F.f68 t p out i=some o->∀(c:Code),Zr [1,1,1,0,1,0,0] (ZI Tryd.f59)=some c->∀(Q:Exit->ASt->Prop),(Q (.exit 0) ⟨[(7,.own 2 (List.length (α:=Ty) o))],[.dead,.dead,.elems 2 (List.map Ty.c o)]⟩)->ALoopU Tryd.prog B 0 30 (hold c .mk) ⟨[(4,.ptr 0 0),(5,.ptr 1 0),(7,.own 2 (List.length (α:=Ty) out)),(8,li (i:Int))],[.cells [li t.data,li t.index],.cells [li p.op,li p.ctor,li p.n,li p.m,li p.var,am Pattern.c p.kids],.elems 2 (List.map Ty.c out)]⟩ (hold Q .mk)):=by
 refine F.f68.partial_correctness t p
  _
  ?_
 ·intro _f_f68 ih_f68 out i o hF
  intro c hc Q hq
  obtain rfl:c=_:=ZQ hc rfl
  refine kN fun hk hs=> ?_
  have d1:=hs 1 _ rfl
  simp -dsimp[Blk.bnd]at d1
  have d2:=hs 2 _ rfl
  simp -dsimp[Blk.bnd]at d2
  clear hk hs
  refine eN ?_
  repeat first|refine cg ?_|simp -dsimp
  have hF:=ob hF;obtain⟨v4,e5,hF⟩:=hF
  refine((C.f67 B hB1 hB2 p.op v4 e5)).goW (by simp) (by simp) ?_
  repeat first|refine cg ?_|simp -dsimp
  revert hF;refine aS ?_ ?_<;>intro h6 q7 hF
  ·have hF:=oc hF;obtain⟨c8,hF⟩:=hF
   have hF:=oc hF;obtain⟨c9,hF⟩:=hF
   have w10:i64.wrap ((i:Int)+1)=(i:Int)+1:=ZE (by omega) (by omega)
   repeat first|refine cg ?_|simp -dsimp[h6,w10]
   refine aG _ ?_ ((ih_f68 (out++[t]) (i+1) o hF) _ rfl _ hq)
   exact(gT (by simp) (by first|simp -dsimp[h6,w10];done|simp_all))
  ·cases hF
   repeat first|refine cg ?_|simp -dsimp[h6,q7]
   refine lG _ (gT (by simp) (by first|simp -dsimp[h6,q7];done|simp_all)) hq
theorem C.f69 (w:List Vl.Data)(t:Ty)(p:Pattern)(r:List Ty)(hF:F.f69 w t p=some r):PureCall Tryd.prog B 59 [am Vl.Data.c w,.agg [li t.data,li t.index],.agg [li p.op,li p.ctor,li p.n,li p.m,li p.var,am Pattern.c p.kids]] (am Ty.c r):=by
 unfold F.f69 at hF
 refine pE Tryd.func59 (by kernel_rfl) rfl Tryd.ntmps59 (by simp) (by simp) ?_
 repeat first|refine cg ?_|simp -dsimp
 revert hF;refine aS ?_ ?_<;>intro h1 q2 hF
 ·repeat first|refine cg ?_|simp -dsimp[h1]
  have hF:=ob hF;obtain⟨v,e3,hF⟩:=hF
  refine((C.f45 B hB1 hB2 w t p.ctor v e3)).goW (by first|simp[h1];done|simp_all) (by simp) ?_
  cases hF
  repeat first|refine cg ?_|simp -dsimp[h1]
  all_goals(try first|omega|rfl)
 ·repeat first|refine cg ?_|simp -dsimp[h1,q2]
  have hF:=ob hF;obtain⟨o',ho11,hF⟩:=hF
  refine ALoop.goU _ ?_ (((CC.f68 B hB1 hB2 t p) [] 0 o' ho11) _ rfl _ ?_)
  ·exact(gT (by simp) (by first|simp -dsimp[h1,q2];done|simp_all))
  cases hF
  repeat first|refine cg ?_|simp -dsimp
  all_goals(try first|omega|rfl)
theorem CC.f70 (w:List Vl.Data):(∀(t:Ty) (p:Pattern) (depth:Int) (r:Bool),F.f70 w t p depth=some r->PureCall Tryd.prog B 55 [am Vl.Data.c w,.agg [li t.data,li t.index],.agg [li p.op,li p.ctor,li p.n,li p.m,li p.var,am Pattern.c p.kids],li depth] (.lit (.bool r)))/\
  (∀(p:Pattern) (depth:Int) (v6:List Ty) (i:Nat) (o:Lo Bool Unit),F.f71 w p depth v6 i=some o->∀(c:Code),Zr [1,1,1,1,0,1,0,0] (ZI Tryd.f55)=some c->∀(Q:Exit->ASt->Prop),o.post (fun r=>∀st,ZCf Tryd.prog Tryd.f55 (fun r' _=>r'.le (.lit (.bool r))) .ret st->Q .ret st) (fun s=>Q (.exit 0) ⟨[],[]⟩)->ALoopU Tryd.prog B 0 50 (hold c .mk) ⟨[(0,am Vl.Data.c w),(3,li depth),(6,.ptr 1 0),(9,am Ty.c v6),(10,li (i:Int))],[.dead,.cells [li p.op,li p.ctor,li p.n,li p.m,li p.var,am Pattern.c p.kids]]⟩ (hold Q .mk)):=by
 refine F.f70.mutual_partial_correctness w
  _ _
  ?_ ?_
 ·intro _f_f71 ih_f71 t p depth r hF
  refine pE Tryd.func55 (by kernel_rfl) rfl Tryd.ntmps55 (by simp) (by simp) ?_
  repeat first|refine cg ?_|simp -dsimp
  revert hF;refine aN ?_ ?_<;>intro h1 q2 hF
  ·repeat first|refine cg ?_|simp -dsimp[h1,q2]
   have hF:=ob hF;obtain⟨v,e3,hF⟩:=hF
   refine((C.f66 B hB1 hB2 w t p v e3)).goW (by first|simp[h1,q2];done|simp_all) (by simp) ?_
   repeat first|refine cg ?_|simp -dsimp[h1,q2]
   revert hF;refine aN (fun h4 q5 hF=> ?_) (fun h4 q5 hF=> ?_)
   ·cases hF
    repeat first|refine cg ?_|simp -dsimp[h1,q2,h4,q5]
    all_goals(try first|omega|rfl)
   ·repeat first|refine cg ?_|simp -dsimp[h1,q2,h4,q5]
    have hF:=ob hF;obtain⟨v6,e7,hF⟩:=hF
    refine((C.f69 B hB1 hB2 w t p v6 e7)).goW (by first|simp[h1,q2,h4,q5];done|simp_all) (by simp) ?_
    repeat first|refine cg ?_|simp -dsimp[h1,q2,h4,q5]
    revert hF;refine aN ?_ ?_<;>intro h8 q9 hF
    ·have z10:¬((p.kids.length:Int)=(v6.length:Int)):=auz
     cases hF
     repeat first|refine cg ?_|simp -dsimp[h1,q2,h4,q5,h8,q9,z10]
     all_goals(try first|omega|rfl)
    ·have z10:((p.kids.length:Int)=(v6.length:Int)):=auz
     repeat first|refine cg ?_|simp -dsimp[h1,q2,h4,q5,h8,q9,z10]
     have hF:=ob hF;obtain⟨o',ho22,hF⟩:=hF
     refine ALoop.goU _ ?_ ((ih_f71 p depth v6 0 o' ho22) _ rfl _ ?_)
     ·exact(gT (by simp) (by first|simp -dsimp[h1,q2,h4,q5,h8,q9,z10];done|simp_all))
     rcases o' with r0|sx
     ·dsimp only at hF
      cases hF
      intro st h
      simpa using h
     ·dsimp only at hF
      cases hF
      repeat first|refine cg ?_|simp -dsimp
      all_goals(try first|omega|rfl)
  ·cases hF
   repeat first|refine cg ?_|simp -dsimp[h1,q2]
   all_goals(try first|omega|rfl)
 ·intro _f_f70 _f_f71 ih_f70 ih_f71 p depth v6 i o hF
  intro c hc Q hq
  obtain rfl:c=_:=ZQ hc rfl
  refine kN fun hk hs=> ?_
  have b0:=hk 0
  simp -dsimp at b0
  have b9:=hk 9
  simp -dsimp at b9
  have d1:=hs 1 _ rfl
  simp -dsimp[Blk.bnd]at d1
  clear hk hs
  refine eN ?_
  repeat first|refine cg ?_|simp -dsimp
  revert hF;refine aS ?_ ?_<;>intro h11 q12 hF
  ·have z13:((i:Int)<(v6.length:Int)):=auz
   repeat first|refine cg ?_|simp -dsimp[h11,z13]
   refine ADraw.simple follows (by kernel_rfl) (by kernel_rfl) ?_
   have hF:=ob hF;obtain⟨x,e14,hF⟩:=hF
   have le14:=ZD e14
   have hF:=ob hF;obtain⟨x15,e16,hF⟩:=hF
   have le16:=ZD e16
   repeat first|refine cg ?_|simp -dsimp[h11,z13,↓e14,↓e16]
   have hF:=ob hF;obtain⟨v17,e18,hF⟩:=hF
   refine((ih_f70 x x15 (i64.wrap (depth-1)) v17 e18)).pgoW (by first|simp[h11,z13,↓e14,↓e16];done|simp_all) (by simp) ?_
   repeat first|refine cg ?_|simp -dsimp[h11,z13,↓e14,↓e16]
   revert hF;refine aN (fun h19 q20 hF=> ?_) (fun h19 q20 hF=> ?_)
   ·cases hF
    repeat first|refine cg ?_|simp -dsimp[h11,z13,↓e14,↓e16,h19,q20]
    refine lG _ (gR _) (hq _ ?_)
    repeat first|refine cg ?_|simp -dsimp[h11,z13,↓e14,↓e16,h19,q20]
   ·have w21:i64.wrap ((i:Int)+1)=(i:Int)+1:=ZE (by omega) (by omega)
    repeat first|refine cg ?_|simp -dsimp[h11,z13,↓e14,↓e16,h19,q20,w21]
    refine aG _ ?_ ((ih_f71 p depth v6 (i+1) o hF) _ rfl _ hq)
    exact(gT (by simp) (by first|simp -dsimp[h11,z13,↓e14,↓e16,h19,q20,w21];done|simp_all))
  ·have z13:¬((i:Int)<(v6.length:Int)):=auz
   cases hF
   repeat first|refine cg ?_|simp -dsimp[h11,q12,z13]
   refine lG _ (gT (by simp) (by first|simp -dsimp[h11,q12,z13];done|simp_all)) hq
theorem CC.f72  :(∀(p:Pattern) (most:Int) (r:Int),F.f72 p most=some r->PureCall Tryd.prog B 56 [.agg [li p.op,li p.ctor,li p.n,li p.m,li p.var,am Pattern.c p.kids],li most] (li r))/\
  (∀(p:Pattern) (most:Int) (n:Int) (i:Nat) (o:Int),F.f73 p most n i=some o->∀(c:Code),Zr [1,1,0,1,0,0] (ZI Tryd.f56)=some c->∀(Q:Exit->ASt->Prop),(Q (.exit 0) ⟨[(5,li o)],[]⟩)->ALoopU Tryd.prog B 0 31 (hold c .mk) ⟨[(1,li most),(2,.ptr 0 0),(5,li n),(6,li (i:Int))],[.cells [li p.op,li p.ctor,li p.n,li p.m,li p.var,am Pattern.c p.kids]]⟩ (hold Q .mk)):=by
 refine F.f72.mutual_partial_correctness 
  _ _
  ?_ ?_
 ·intro _f_f73 ih_f73 p most r hF
  refine pE Tryd.func56 (by kernel_rfl) rfl Tryd.ntmps56 (by simp) (by simp) ?_
  repeat first|refine cg ?_|simp -dsimp
  have hF:=ob hF;obtain⟨o',ho9,hF⟩:=hF
  refine ALoop.goU _ ?_ ((ih_f73 p most 1 0 o' ho9) _ rfl _ ?_)
  ·exact(gT (by simp) (by simp -dsimp))
  cases hF
  repeat first|refine cg ?_|simp -dsimp
  all_goals(try first|omega|rfl)
 ·intro _f_f72 _f_f73 ih_f72 ih_f73 p most n i o hF
  intro c hc Q hq
  obtain rfl:c=_:=ZQ hc rfl
  refine kN fun hk hs=> ?_
  have d0:=hs 0 _ rfl
  simp -dsimp[Blk.bnd]at d0
  clear hk hs
  refine eN ?_
  repeat first|refine cg ?_|simp -dsimp
  revert hF;refine aS ?_ ?_<;>intro h1 q2 hF
  ·have z3:((i:Int)<(p.kids.length:Int)):=auz
   repeat first|refine cg ?_|simp -dsimp[h1,z3]
   revert hF;refine aS ?_ ?_<;>intro h4 q5 hF
   ·have hF:=ob hF;obtain⟨x,e6,hF⟩:=hF
    have le6:=ZD e6
    repeat first|refine cg ?_|simp -dsimp[h1,z3,h4,↓e6]
    have hF:=ob hF;obtain⟨v,e7,hF⟩:=hF
    refine((ih_f72 x (i64.wrap (most-n)) v e7)).goW (by first|simp[h1,z3,h4,↓e6];done|simp_all) (by simp) ?_
    have w8:i64.wrap ((i:Int)+1)=(i:Int)+1:=ZE (by omega) (by omega)
    repeat first|refine cg ?_|simp -dsimp[h1,z3,h4,↓e6,w8]
    refine aG _ ?_ ((ih_f73 p most (i64.wrap (n+v)) (i+1) o hF) _ rfl _ hq)
    exact(gT (by simp) (by first|simp -dsimp[h1,z3,h4,↓e6,w8];done|simp_all))
   ·cases hF
    repeat first|refine cg ?_|simp -dsimp[h1,z3,h4,q5]
    refine lG _ (gT (by simp) (by first|simp -dsimp[h1,z3,h4,q5];done|simp_all)) hq
  ·have z3:¬((i:Int)<(p.kids.length:Int)):=auz
   cases hF
   repeat first|refine cg ?_|simp -dsimp[h1,q2,z3]
   refine lG _ (gT (by simp) (by first|simp -dsimp[h1,q2,z3];done|simp_all)) hq
theorem CC.f74 (w:List Vl.Data):(∀(out:List VarType) (t:Ty) (p:Pattern) (r:List VarType),F.f74 out w t p=some r->BCall Tryd.prog B 41 [.elems 3 (List.map VarType.c out)] [.own 0 (List.length (α:=VarType) out),am Vl.Data.c w,.agg [li t.data,li t.index],.agg [li p.op,li p.ctor,li p.n,li p.m,li p.var,am Pattern.c p.kids]] (.own 0 (List.length (α:=VarType) r)) [.elems 3 (List.map VarType.c r)])/\
  (∀(p:Pattern) (v30:List Ty) (out32:List VarType) (i33:Nat) (o:List VarType),F.f76 w p v30 out32 i33=some o->∀(c:Code),Zr [1,1,1,0,1,0,0] (ZI Tryd.f41)=some c->∀(Q:Exit->ASt->Prop),(Q (.exit 0) ⟨[(0,.own 0 (List.length (α:=VarType) o))],[.elems 3 (List.map VarType.c o)]⟩)->ALoopU Tryd.prog B 1 58 (hold c .mk) ⟨[(0,.own 0 (List.length (α:=VarType) out32)),(1,am Vl.Data.c w),(7,.ptr 2 0),(9,am Ty.c v30),(10,li (i33:Int))],[.elems 3 (List.map VarType.c out32),.dead,.cells [li p.op,li p.ctor,li p.n,li p.m,li p.var,am Pattern.c p.kids]]⟩ (hold Q .mk))/\
  (∀(p:Pattern) (v:List Ty) (out7:List VarType) (i:Nat) (o:List VarType),F.f75 w p v out7 i=some o->∀(c:Code),Zr [1,1,1,0,1,0,0] (ZI Tryd.f41)=some c->∀(Q:Exit->ASt->Prop),(Q (.exit 0) ⟨[(0,.own 0 (List.length (α:=VarType) o))],[.elems 3 (List.map VarType.c o)]⟩)->ALoopU Tryd.prog B 1 58 (hold c .mk) ⟨[(0,.own 0 (List.length (α:=VarType) out7)),(1,am Vl.Data.c w),(7,.ptr 2 0),(9,am Ty.c v),(10,li (i:Int))],[.elems 3 (List.map VarType.c out7),.dead,.cells [li p.op,li p.ctor,li p.n,li p.m,li p.var,am Pattern.c p.kids]]⟩ (hold Q .mk))/\
  (∀(p:Pattern) (v59:List Ty) (out61:List VarType) (i62:Nat) (o:List VarType),F.f77 w p v59 out61 i62=some o->∀(c:Code),Zr [1,1,1,0,1,0,0] (ZI Tryd.f41)=some c->∀(Q:Exit->ASt->Prop),(Q (.exit 0) ⟨[(0,.own 0 (List.length (α:=VarType) o))],[.elems 3 (List.map VarType.c o)]⟩)->ALoopU Tryd.prog B 1 58 (hold c .mk) ⟨[(0,.own 0 (List.length (α:=VarType) out61)),(1,am Vl.Data.c w),(7,.ptr 2 0),(9,am Ty.c v59),(10,li (i62:Int))],[.elems 3 (List.map VarType.c out61),.dead,.cells [li p.op,li p.ctor,li p.n,li p.m,li p.var,am Pattern.c p.kids]]⟩ (hold Q .mk)):=by
 refine F.f74.mutual_partial_correctness w
  _ _ _ _
  ?_ ?_ ?_ ?_
 ·intro _f_f76 _f_f75 _f_f77 ih_f76 ih_f75 ih_f77 out t p r hF
  refine BCall.enter Tryd.func41 (by kernel_rfl) rfl Tryd.ntmps41 (by simp) rfl (by simp) (by simp) (by simp) (by simp) (by simp) (gR _) ?_
  repeat first|refine cg ?_|simp -dsimp
  revert hF;refine aN ?_ ?_<;>intro h1 q2 hF
  ·repeat first|refine cg ?_|simp -dsimp[h1,q2]
   revert hF;refine aS ?_ ?_<;>intro h3 q4 hF
   ·have hF:=oc hF;obtain⟨c5,hF⟩:=hF
    repeat first|refine cg ?_|simp -dsimp[h1,q2,h3]
    have hF:=ob hF;obtain⟨v,e6,hF⟩:=hF
    refine((C.f69 B hB1 hB2 w t p v e6)).goW (by first|simp[h1,q2,h3];done|simp_all) (by simp) ?_
    repeat first|refine cg ?_|simp -dsimp[h1,q2,h3]
    have hF:=ob hF;obtain⟨o',ho29,hF⟩:=hF
    refine ALoop.goU _ ?_ ((ih_f75 p v (out++[(⟨p.var,t⟩:VarType)]) 0 o' ho29) _ rfl _ ?_)
    ·exact(gT (by simp) (by first|simp -dsimp[h1,q2,h3];done|simp_all))
    cases hF
    repeat first|refine cg ?_|simp -dsimp
    all_goals(try first|omega|rfl)
   ·repeat first|refine cg ?_|simp -dsimp[h1,q2,h3,q4]
    have hF:=ob hF;obtain⟨v30,e31,hF⟩:=hF
    refine((C.f69 B hB1 hB2 w t p v30 e31)).goW (by first|simp[h1,q2,h3,q4];done|simp_all) (by simp) ?_
    repeat first|refine cg ?_|simp -dsimp[h1,q2,h3,q4]
    have hF:=ob hF;obtain⟨o'57,ho56,hF⟩:=hF
    refine ALoop.goU _ ?_ ((ih_f76 p v30 out 0 o'57 ho56) _ rfl _ ?_)
    ·exact(gT (by simp) (by first|simp -dsimp[h1,q2,h3,q4];done|simp_all))
    cases hF
    repeat first|refine cg ?_|simp -dsimp
    all_goals(try first|omega|rfl)
  ·have hF:=oc hF;obtain⟨c58,hF⟩:=hF
   repeat first|refine cg ?_|simp -dsimp[h1,q2]
   have hF:=ob hF;obtain⟨v59,e60,hF⟩:=hF
   refine((C.f69 B hB1 hB2 w t p v59 e60)).goW (by first|simp[h1,q2];done|simp_all) (by simp) ?_
   repeat first|refine cg ?_|simp -dsimp[h1,q2]
   have hF:=ob hF;obtain⟨o'86,ho85,hF⟩:=hF
   refine ALoop.goU _ ?_ ((ih_f77 p v59 (out++[(⟨p.var,t⟩:VarType)]) 0 o'86 ho85) _ rfl _ ?_)
   ·exact(gT (by simp) (by first|simp -dsimp[h1,q2];done|simp_all))
   cases hF
   repeat first|refine cg ?_|simp -dsimp
   all_goals(try first|omega|rfl)
 ·intro _f_f74 _f_f76 ih_f74 ih_f76 p v30 out32 i33 o hF
  intro c hc Q hq
  obtain rfl:c=_:=ZQ hc rfl
  refine kN fun hk hs=> ?_
  have b1:=hk 1
  simp -dsimp at b1
  have b9:=hk 9
  simp -dsimp at b9
  have d0:=hs 0 _ rfl
  simp -dsimp[Blk.bnd]at d0
  have d2:=hs 2 _ rfl
  simp -dsimp[Blk.bnd]at d2
  clear hk hs
  refine eN ?_
  repeat first|refine cg ?_|simp -dsimp
  revert hF;refine aS ?_ ?_<;>intro h34 q35 hF
  ·have z36:((i33:Int)<(v30.length:Int)):=auz
   repeat first|refine cg ?_|simp -dsimp[h34,z36]
   revert hF;refine aN ?_ ?_<;>intro h37 q38 hF
   ·have z39:¬((i33:Int)=0):=auz
    repeat first|refine cg ?_|simp -dsimp[h34,z36,h37,q38,z39]
    revert hF;refine aN ?_ ?_<;>intro h40 q41 hF
    ·repeat first|refine cg ?_|simp -dsimp[h34,z36,h37,q38,z39,h40,q41]
     refine ADraw.eff [41] [(0,0),(0,0),(0,0),(0,0),(0,0),(0,0),(0,0),(0,0),(0,0),(0,0),(0,0),(0,1),(1,1)] [1,1,1,1,1,1,1,1,1,1,1,1,1] follows (by kernel_rfl) (by kernel_rfl) (by kernel_rfl) ?_
     have hF:=ob hF;obtain⟨x42,e43,hF⟩:=hF
     have le43:=ZD e43
     have hF:=ob hF;obtain⟨x44,e45,hF⟩:=hF
     have le45:=ZD e45
     repeat first|refine cg ?_|simp -dsimp[h34,z36,h37,q38,z39,h40,q41,↓e43,↓e45]
     have hF:=ob hF;obtain⟨v46,e47,hF⟩:=hF
     refine((ih_f74 out32 x42 x44 v46 e47)).ego (pl [0]) (by simp) (by simp) (ZAn _ rfl (by decide)) (by intro i hi hi';simp at hi hi';first|omega|(subst hi';simp[pl])) (by first|simp[h34,z36,h37,q38,z39,h40,q41,↓e43,↓e45];done|simp_all) (by first|simp[h34,z36,h37,q38,z39,h40,q41,↓e43,↓e45];done|simp_all) ?_
     have w48:i64.wrap ((i33:Int)+1)=(i33:Int)+1:=ZE (by omega) (by omega)
     repeat first|refine cg ?_|simp -dsimp[h34,z36,h37,q38,z39,h40,q41,↓e43,↓e45,w48]
     refine aG _ ?_ ((ih_f76 p v30 v46 (i33+1) o hF) _ rfl _ hq)
     exact(gT (by simp) (by first|simp -dsimp[h34,z36,h37,q38,z39,h40,q41,↓e43,↓e45,w48];done|simp_all))
    ·cases hF
     repeat first|refine cg ?_|simp -dsimp[h34,z36,h37,q38,z39,h40,q41]
     refine lG _ (gT (by simp) (by first|simp -dsimp[h34,z36,h37,q38,z39,h40,q41];done|simp_all)) hq
   ·have z39:((i33:Int)=0):=auz
    repeat first|refine cg ?_|simp -dsimp[h34,z36,eq_true h37,eq_true q38,eq_true z39]
    refine ADraw.eff [41] [(0,0),(0,0),(0,0),(0,0),(0,0),(0,0),(0,0),(0,0),(0,0),(0,0),(0,0),(0,1),(1,1)] [1,1,1,1,1,1,1,1,1,1,1,1,1] follows (by kernel_rfl) (by kernel_rfl) (by kernel_rfl) ?_
    have hF:=ob hF;obtain⟨x49,e50,hF⟩:=hF
    have le50:=ZD e50
    have hF:=ob hF;obtain⟨x51,e52,hF⟩:=hF
    have le52:=ZD e52
    repeat first|refine cg ?_|simp -dsimp[h34,z36,eq_true h37,eq_true q38,eq_true z39,↓e50,↓e52]
    have hF:=ob hF;obtain⟨v53,e54,hF⟩:=hF
    refine((ih_f74 out32 x49 x51 v53 e54)).ego (pl [0]) (by simp) (by simp) (ZAn _ rfl (by decide)) (by intro i hi hi';simp at hi hi';first|omega|(subst hi';simp[pl])) (by first|simp[h34,z36,eq_true h37,eq_true q38,eq_true z39,↓e50,↓e52];done|simp_all) (by first|simp[h34,z36,eq_true h37,eq_true q38,eq_true z39,↓e50,↓e52];done|simp_all) ?_
    have w55:i64.wrap ((i33:Int)+1)=(i33:Int)+1:=ZE (by omega) (by omega)
    repeat first|refine cg ?_|simp -dsimp[h34,z36,eq_true h37,eq_true q38,eq_true z39,↓e50,↓e52,w55]
    refine aG _ ?_ ((ih_f76 p v30 v53 (i33+1) o hF) _ rfl _ hq)
    exact(gT (by simp) (by first|simp -dsimp[h34,z36,eq_true h37,eq_true q38,eq_true z39,↓e50,↓e52,w55];done|simp_all))
  ·have z36:¬((i33:Int)<(v30.length:Int)):=auz
   cases hF
   repeat first|refine cg ?_|simp -dsimp[h34,q35,z36]
   refine lG _ (gT (by simp) (by first|simp -dsimp[h34,q35,z36];done|simp_all)) hq
 ·intro _f_f74 _f_f75 ih_f74 ih_f75 p v out7 i o hF
  intro c hc Q hq
  obtain rfl:c=_:=ZQ hc rfl
  refine kN fun hk hs=> ?_
  have b1:=hk 1
  simp -dsimp at b1
  have b9:=hk 9
  simp -dsimp at b9
  have d0:=hs 0 _ rfl
  simp -dsimp[Blk.bnd]at d0
  have d2:=hs 2 _ rfl
  simp -dsimp[Blk.bnd]at d2
  clear hk hs
  refine eN ?_
  repeat first|refine cg ?_|simp -dsimp
  revert hF;refine aS ?_ ?_<;>intro h8 q9 hF
  ·have z10:((i:Int)<(v.length:Int)):=auz
   repeat first|refine cg ?_|simp -dsimp[h8,z10]
   revert hF;refine aN ?_ ?_<;>intro h11 q12 hF
   ·have z13:¬((i:Int)=0):=auz
    repeat first|refine cg ?_|simp -dsimp[h8,z10,h11,q12,z13]
    revert hF;refine aN ?_ ?_<;>intro h14 q15 hF
    ·repeat first|refine cg ?_|simp -dsimp[h8,z10,h11,q12,z13,h14,q15]
     refine ADraw.eff [41] [(0,0),(0,0),(0,0),(0,0),(0,0),(0,0),(0,0),(0,0),(0,0),(0,0),(0,0),(0,1),(1,1)] [1,1,1,1,1,1,1,1,1,1,1,1,1] follows (by kernel_rfl) (by kernel_rfl) (by kernel_rfl) ?_
     have hF:=ob hF;obtain⟨x,e16,hF⟩:=hF
     have le16:=ZD e16
     have hF:=ob hF;obtain⟨x17,e18,hF⟩:=hF
     have le18:=ZD e18
     repeat first|refine cg ?_|simp -dsimp[h8,z10,h11,q12,z13,h14,q15,↓e16,↓e18]
     have hF:=ob hF;obtain⟨v19,e20,hF⟩:=hF
     refine((ih_f74 out7 x x17 v19 e20)).ego (pl [0]) (by simp) (by simp) (ZAn _ rfl (by decide)) (by intro i hi hi';simp at hi hi';first|omega|(subst hi';simp[pl])) (by first|simp[h8,z10,h11,q12,z13,h14,q15,↓e16,↓e18];done|simp_all) (by first|simp[h8,z10,h11,q12,z13,h14,q15,↓e16,↓e18];done|simp_all) ?_
     have w21:i64.wrap ((i:Int)+1)=(i:Int)+1:=ZE (by omega) (by omega)
     repeat first|refine cg ?_|simp -dsimp[h8,z10,h11,q12,z13,h14,q15,↓e16,↓e18,w21]
     refine aG _ ?_ ((ih_f75 p v v19 (i+1) o hF) _ rfl _ hq)
     exact(gT (by simp) (by first|simp -dsimp[h8,z10,h11,q12,z13,h14,q15,↓e16,↓e18,w21];done|simp_all))
    ·cases hF
     repeat first|refine cg ?_|simp -dsimp[h8,z10,h11,q12,z13,h14,q15]
     refine lG _ (gT (by simp) (by first|simp -dsimp[h8,z10,h11,q12,z13,h14,q15];done|simp_all)) hq
   ·have z13:((i:Int)=0):=auz
    repeat first|refine cg ?_|simp -dsimp[h8,z10,eq_true h11,eq_true q12,eq_true z13]
    refine ADraw.eff [41] [(0,0),(0,0),(0,0),(0,0),(0,0),(0,0),(0,0),(0,0),(0,0),(0,0),(0,0),(0,1),(1,1)] [1,1,1,1,1,1,1,1,1,1,1,1,1] follows (by kernel_rfl) (by kernel_rfl) (by kernel_rfl) ?_
    have hF:=ob hF;obtain⟨x22,e23,hF⟩:=hF
    have le23:=ZD e23
    have hF:=ob hF;obtain⟨x24,e25,hF⟩:=hF
    have le25:=ZD e25
    repeat first|refine cg ?_|simp -dsimp[h8,z10,eq_true h11,eq_true q12,eq_true z13,↓e23,↓e25]
    have hF:=ob hF;obtain⟨v26,e27,hF⟩:=hF
    refine((ih_f74 out7 x22 x24 v26 e27)).ego (pl [0]) (by simp) (by simp) (ZAn _ rfl (by decide)) (by intro i hi hi';simp at hi hi';first|omega|(subst hi';simp[pl])) (by first|simp[h8,z10,eq_true h11,eq_true q12,eq_true z13,↓e23,↓e25];done|simp_all) (by first|simp[h8,z10,eq_true h11,eq_true q12,eq_true z13,↓e23,↓e25];done|simp_all) ?_
    have w28:i64.wrap ((i:Int)+1)=(i:Int)+1:=ZE (by omega) (by omega)
    repeat first|refine cg ?_|simp -dsimp[h8,z10,eq_true h11,eq_true q12,eq_true z13,↓e23,↓e25,w28]
    refine aG _ ?_ ((ih_f75 p v v26 (i+1) o hF) _ rfl _ hq)
    exact(gT (by simp) (by first|simp -dsimp[h8,z10,eq_true h11,eq_true q12,eq_true z13,↓e23,↓e25,w28];done|simp_all))
  ·have z10:¬((i:Int)<(v.length:Int)):=auz
   cases hF
   repeat first|refine cg ?_|simp -dsimp[h8,q9,z10]
   refine lG _ (gT (by simp) (by first|simp -dsimp[h8,q9,z10];done|simp_all)) hq
 ·intro _f_f74 _f_f77 ih_f74 ih_f77 p v59 out61 i62 o hF
  intro c hc Q hq
  obtain rfl:c=_:=ZQ hc rfl
  refine kN fun hk hs=> ?_
  have b1:=hk 1
  simp -dsimp at b1
  have b9:=hk 9
  simp -dsimp at b9
  have d0:=hs 0 _ rfl
  simp -dsimp[Blk.bnd]at d0
  have d2:=hs 2 _ rfl
  simp -dsimp[Blk.bnd]at d2
  clear hk hs
  refine eN ?_
  repeat first|refine cg ?_|simp -dsimp
  revert hF;refine aS ?_ ?_<;>intro h63 q64 hF
  ·have z65:((i62:Int)<(v59.length:Int)):=auz
   repeat first|refine cg ?_|simp -dsimp[h63,z65]
   revert hF;refine aN ?_ ?_<;>intro h66 q67 hF
   ·have z68:¬((i62:Int)=0):=auz
    repeat first|refine cg ?_|simp -dsimp[h63,z65,h66,q67,z68]
    revert hF;refine aN ?_ ?_<;>intro h69 q70 hF
    ·repeat first|refine cg ?_|simp -dsimp[h63,z65,h66,q67,z68,h69,q70]
     refine ADraw.eff [41] [(0,0),(0,0),(0,0),(0,0),(0,0),(0,0),(0,0),(0,0),(0,0),(0,0),(0,0),(0,1),(1,1)] [1,1,1,1,1,1,1,1,1,1,1,1,1] follows (by kernel_rfl) (by kernel_rfl) (by kernel_rfl) ?_
     have hF:=ob hF;obtain⟨x71,e72,hF⟩:=hF
     have le72:=ZD e72
     have hF:=ob hF;obtain⟨x73,e74,hF⟩:=hF
     have le74:=ZD e74
     repeat first|refine cg ?_|simp -dsimp[h63,z65,h66,q67,z68,h69,q70,↓e72,↓e74]
     have hF:=ob hF;obtain⟨v75,e76,hF⟩:=hF
     refine((ih_f74 out61 x71 x73 v75 e76)).ego (pl [0]) (by simp) (by simp) (ZAn _ rfl (by decide)) (by intro i hi hi';simp at hi hi';first|omega|(subst hi';simp[pl])) (by first|simp[h63,z65,h66,q67,z68,h69,q70,↓e72,↓e74];done|simp_all) (by first|simp[h63,z65,h66,q67,z68,h69,q70,↓e72,↓e74];done|simp_all) ?_
     have w77:i64.wrap ((i62:Int)+1)=(i62:Int)+1:=ZE (by omega) (by omega)
     repeat first|refine cg ?_|simp -dsimp[h63,z65,h66,q67,z68,h69,q70,↓e72,↓e74,w77]
     refine aG _ ?_ ((ih_f77 p v59 v75 (i62+1) o hF) _ rfl _ hq)
     exact(gT (by simp) (by first|simp -dsimp[h63,z65,h66,q67,z68,h69,q70,↓e72,↓e74,w77];done|simp_all))
    ·cases hF
     repeat first|refine cg ?_|simp -dsimp[h63,z65,h66,q67,z68,h69,q70]
     refine lG _ (gT (by simp) (by first|simp -dsimp[h63,z65,h66,q67,z68,h69,q70];done|simp_all)) hq
   ·have z68:((i62:Int)=0):=auz
    repeat first|refine cg ?_|simp -dsimp[h63,z65,eq_true h66,eq_true q67,eq_true z68]
    refine ADraw.eff [41] [(0,0),(0,0),(0,0),(0,0),(0,0),(0,0),(0,0),(0,0),(0,0),(0,0),(0,0),(0,1),(1,1)] [1,1,1,1,1,1,1,1,1,1,1,1,1] follows (by kernel_rfl) (by kernel_rfl) (by kernel_rfl) ?_
    have hF:=ob hF;obtain⟨x78,e79,hF⟩:=hF
    have le79:=ZD e79
    have hF:=ob hF;obtain⟨x80,e81,hF⟩:=hF
    have le81:=ZD e81
    repeat first|refine cg ?_|simp -dsimp[h63,z65,eq_true h66,eq_true q67,eq_true z68,↓e79,↓e81]
    have hF:=ob hF;obtain⟨v82,e83,hF⟩:=hF
    refine((ih_f74 out61 x78 x80 v82 e83)).ego (pl [0]) (by simp) (by simp) (ZAn _ rfl (by decide)) (by intro i hi hi';simp at hi hi';first|omega|(subst hi';simp[pl])) (by first|simp[h63,z65,eq_true h66,eq_true q67,eq_true z68,↓e79,↓e81];done|simp_all) (by first|simp[h63,z65,eq_true h66,eq_true q67,eq_true z68,↓e79,↓e81];done|simp_all) ?_
    have w84:i64.wrap ((i62:Int)+1)=(i62:Int)+1:=ZE (by omega) (by omega)
    repeat first|refine cg ?_|simp -dsimp[h63,z65,eq_true h66,eq_true q67,eq_true z68,↓e79,↓e81,w84]
    refine aG _ ?_ ((ih_f77 p v59 v82 (i62+1) o hF) _ rfl _ hq)
    exact(gT (by simp) (by first|simp -dsimp[h63,z65,eq_true h66,eq_true q67,eq_true z68,↓e79,↓e81,w84];done|simp_all))
  ·have z65:¬((i62:Int)<(v59.length:Int)):=auz
   cases hF
   repeat first|refine cg ?_|simp -dsimp[h63,q64,z65]
   refine lG _ (gT (by simp) (by first|simp -dsimp[h63,q64,z65];done|simp_all)) hq
theorem CC.f78 (list:List VarType)(n:Int):(∀(i:Nat) (o:Lo Int Unit),F.f78 list n i=some o->∀(c:Code),Zr [1,0,1,0,0] (ZI Tryd.f58)=some c->∀(Q:Exit->ASt->Prop),o.post (fun r=>∀st,ZCf Tryd.prog Tryd.f58 (fun r' _=>r'.le (li r)) .ret st->Q .ret st) (fun s=>Q (.exit 0) ⟨[],[]⟩)->ALoopU Tryd.prog B 0 20 (hold c .mk) ⟨[(0,am VarType.c list),(1,li n),(5,li (i:Int))],[]⟩ (hold Q .mk)):=by
 refine F.f78.partial_correctness list n
  _
  ?_
 ·intro _f_f78 ih_f78 i o hF
  intro c hc Q hq
  obtain rfl:c=_:=ZQ hc rfl
  refine kN fun hk hs=> ?_
  have b0:=hk 0
  simp -dsimp at b0
  clear hk hs
  refine eN ?_
  repeat first|refine cg ?_|simp -dsimp
  revert hF;refine aS ?_ ?_<;>intro h1 q2 hF
  ·have z3:((i:Int)<(list.length:Int)):=auz
   have hF:=ob hF;obtain⟨x,e4,hF⟩:=hF
   have le4:=ZD e4
   repeat first|refine cg ?_|simp -dsimp[h1,z3,↓e4]
   revert hF;refine aS ?_ ?_<;>intro h5 q6 hF
   ·cases hF
    repeat first|refine cg ?_|simp -dsimp[h1,z3,↓e4,h5]
    refine lG _ (gR _) (hq _ ?_)
    repeat first|refine cg ?_|simp -dsimp[h1,z3,↓e4,h5]
   ·have w7:i64.wrap ((i:Int)+1)=(i:Int)+1:=ZE (by omega) (by omega)
    repeat first|refine cg ?_|simp -dsimp[h1,z3,↓e4,h5,q6,w7]
    refine aG _ ?_ ((ih_f78 (i+1) o hF) _ rfl _ hq)
    exact(gT (by simp) (by first|simp -dsimp[h1,z3,↓e4,h5,q6,w7];done|simp_all))
  ·have z3:¬((i:Int)<(list.length:Int)):=auz
   cases hF
   repeat first|refine cg ?_|simp -dsimp[h1,q2,z3]
   refine lG _ (gT (by simp) (by first|simp -dsimp[h1,q2,z3];done|simp_all)) hq
theorem C.f79 (list:List VarType)(n:Int)(r:Int)(hF:F.f79 list n=some r):PureCall Tryd.prog B 58 [am VarType.c list,li n] (li r):=by
 unfold F.f79 at hF
 refine pE Tryd.func58 (by kernel_rfl) rfl Tryd.ntmps58 (by simp) (by simp) ?_
 repeat first|refine cg ?_|simp -dsimp
 have hF:=ob hF;obtain⟨o',ho8,hF⟩:=hF
 refine ALoop.goU _ ?_ (((CC.f78 B hB1 hB2 list n) 0 o' ho8) _ rfl _ ?_)
 ·exact(gT (by simp) (by simp -dsimp))
 rcases o' with r0|sx
 ·dsimp only at hF
  cases hF
  intro st h
  simpa using h
 ·dsimp only at hF
  cases hF
  repeat first|refine cg ?_|simp -dsimp
  all_goals(try first|omega|rfl)
end Go.Proofs.YtodkbabdaoeooaaDoor
