/- Part. -/
import Derived.Test.YtodkbabdaoeooaaGreatDoorProg
import Derived.Test.YtodkbabdaoeooaaGreatDoorFormatNodesF
import Derived.Test.YtodkbabdaoeooaaGreatDoorVlAuto
import Derived.Test.YtodkbabdaoeooaaGreatDoorVlBld
import Derived.Test.YtodkbabdaoeooaaGreatDoorShelf
open List renaming length->zA,map->zB,length_cons->zC,length_nil->zD
open ByteArray renaming empty->zE,size_append->zF
namespace Go.Proofs.YtodkbabdaoeooaaGreatDoor
open Go Go.Proofs Go.Vl
open Go.Result renaming andThen->zG
open Go.Oper renaming upon_value->zH
open Go.Lib renaming cell_of_heap->zI
open PureCall renaming inLe->zJ
open MutCall renaming inn->zK
open ADraw renaming effI->zL,simI->zM,effP->zN,split->zO,gh->zP,opn->zR
open Blk renaming bnd->zS
open Again renaming is->zT
open Leave renaming is->zU
open ALoop renaming is->zV,goU->zW
open Ty renaming c->zX
open Gh renaming trans->zY,frzSlot->zZ,nilCell->yA,frzCell->yB
open Go.Vl renaming Data->yC
open Go.Vl.Data renaming c->yD
open ACall renaming frz->yE,nilArg->yF,inl->yG
open ECallA renaming frz->yH,nilArg->yI
open Pattern renaming c->yJ
open VarType renaming c->yK
open BCall renaming enterS->yL,enter->yM
open Clause renaming c->yN
open PathBind renaming c->yO
open Go.Proofs.Tryz
open Go.Proofs.Tryz renaming prog->zQ
open abr renaming sp->aS,ns->aN
open Leave renaming go->lG
open Again renaming go->aG
open ALoopU renaming enter->eN
open Gh renaming to3->gT,refl->gR
open Go.IntKind (i64)
set_option linter.all false
set_option maxRecDepth 100000
set_option maxHeartbeats 4000000
set_option synthInstance.maxSize 100000
set_option synthInstance.maxHeartbeats 4000000
attribute [local irreducible] GhK ECallA aL AMake MLoop AgainM LeaveM ZBu ZBM MutCall BCall chk abr ACall ALoop ALoopU ADraw Again Leave ZEx PCall ZA2 awp ZIg PureCall hold
abbrev li (x:Int):AV:=.lit (.int .i64 x)
abbrev am {α:Type}(f:α->List AV)(l:List α):AV:=.arr (zB f l)
theorem follows :Tryz.prog.follows .mixedOrders=true:=by kernel_rfl
@[simp] theorem ti2 :Zl zQ 2=some ⟨.word,1,[.int .i64 0]⟩:=by kernel_rfl
@[simp] theorem ti3 :Zl zQ 3=some ⟨.word,1,[.int .i64 0]⟩:=by kernel_rfl
@[simp] theorem ti4 :Zl zQ 4=some ⟨.word,1,[.bool false]⟩:=by kernel_rfl
@[simp] theorem ti5 :Zl zQ 5=some ⟨.word,1,[.int .u8 0]⟩:=by kernel_rfl
@[simp] theorem ti6 :Zl zQ 6=some ⟨.word,1,[.int .u8 0]⟩:=by kernel_rfl
@[simp] theorem ti8 :Zl zQ 8=some ⟨.struct [(0,1),(1,1),(2,1),(3,1)],4,[.int .i64 0,.int .i64 0,.bool false,.int .u8 0]⟩:=by kernel_rfl
@[simp] theorem ti9 :Zl zQ 9=some ⟨.word,1,[.string zE]⟩:=by kernel_rfl
@[simp] theorem ZSe :Zl zQ 22=some ⟨.slice 1 1 [.int .u8 0],1,[.slice none 0 0]⟩:=by kernel_rfl
@[simp] theorem ZSp :ZDW zQ 22=true:=by kernel_rfl
@[simp] theorem ZSd :Zl zQ 23=some ⟨.slice 6 96 [.int .i64 0,.int .i64 0,.slice none 0 0,.slice none 0 0,.slice none 0 0,.int .i64 0],1,[.slice none 0 0]⟩:=by kernel_rfl
@[simp] theorem ZSo :ZDW zQ 23=true:=by kernel_rfl
@[simp] theorem ZSc :Zl zQ 28=some ⟨.slice 2 40 [.string zE,.slice none 0 0],1,[.slice none 0 0]⟩:=by kernel_rfl
@[simp] theorem ZSn :ZDW zQ 28=true:=by kernel_rfl
@[simp] theorem ZSb :Zl zQ 30=some ⟨.struct [(0,1),(1,1)],2,[.int .i64 0,.int .i64 0]⟩:=by kernel_rfl
@[simp] theorem ZSs :ZCU zQ 30=true:=by kernel_rfl
@[simp] theorem ZSa :Zl zQ 31=some ⟨.slice 9 88 [.int .i64 0,.int .i64 0,.int .i64 0,.int .i64 0,.int .i64 0,.slice none 0 0,.int .i64 0,.int .i64 0,.int .i64 0],1,[.slice none 0 0]⟩:=by kernel_rfl
@[simp] theorem ZSm :ZDW zQ 31=true:=by kernel_rfl
@[simp] theorem ZSZ :Zl zQ 38=some ⟨.slice 1 8 [.int .i64 0],1,[.slice none 0 0]⟩:=by kernel_rfl
@[simp] theorem ZSl :ZDW zQ 38=true:=by kernel_rfl
@[simp] theorem ZSY :Zl zQ 39=some ⟨.slice 2 32 [.int .i64 0,.slice none 0 0],1,[.slice none 0 0]⟩:=by kernel_rfl
@[simp] theorem ZSk :ZDW zQ 39=true:=by kernel_rfl
@[simp] theorem ZSX :Zl zQ 44=some ⟨.struct [(0,1),(1,1)],2,[.pointer none,.slice none 0 0]⟩:=by kernel_rfl
@[simp] theorem ZSW :Zl zQ 45=some ⟨.slice 4 32 [.int .i64 0,.int .i64 0,.int .i64 0,.int .i64 0],1,[.slice none 0 0]⟩:=by kernel_rfl
@[simp] theorem ZSj :ZDW zQ 45=true:=by kernel_rfl
@[simp] theorem ZSV :Zl zQ 47=some ⟨.struct [(0,1),(1,1),(2,1),(3,1),(4,1),(5,1)],6,[.int .i64 0,.int .i64 0,.slice none 0 0,.slice none 0 0,.slice none 0 0,.int .i64 0]⟩:=by kernel_rfl
@[simp] theorem ZSU :Zl zQ 55=some ⟨.struct [(0,1),(1,1),(2,1),(3,1)],4,[.int .i64 0,.int .i64 0,.int .i64 0,.int .i64 0]⟩:=by kernel_rfl
@[simp] theorem ZSr :ZDe zQ 55=true:=by kernel_rfl
@[simp] theorem ZST :Zl zQ 63=some ⟨.slice 1 24 [.slice none 0 0],1,[.slice none 0 0]⟩:=by kernel_rfl
@[simp] theorem ZSi :ZDW zQ 63=true:=by kernel_rfl
@[simp] theorem ZSS :Zl zQ 66=some ⟨.slice 6 64 [.int .i64 0,.int .i64 0,.int .i64 0,.int .i64 0,.int .i64 0,.slice none 0 0],1,[.slice none 0 0]⟩:=by kernel_rfl
@[simp] theorem ZSh :ZDW zQ 66=true:=by kernel_rfl
@[simp] theorem ZSR :Zl zQ 68=some ⟨.struct [(0,1),(1,1),(2,1),(3,1),(4,1),(5,1)],6,[.int .i64 0,.int .i64 0,.int .i64 0,.int .i64 0,.int .i64 0,.slice none 0 0]⟩:=by kernel_rfl
@[simp] theorem ZSQ :Zl zQ 74=some ⟨.struct [(0,1),(1,1)],2,[.int .i64 0,.slice none 0 0]⟩:=by kernel_rfl
@[simp] theorem ZSP :Zl zQ 79=some ⟨.struct [(0,1),(1,1),(2,1)],3,[.int .i64 0,.int .i64 0,.int .i64 0]⟩:=by kernel_rfl
@[simp] theorem ZSq :ZDD zQ 79=true:=by kernel_rfl
@[simp] theorem ZSO :Zl zQ 81=some ⟨.struct [(0,6),(6,3)],9,[.int .i64 0,.int .i64 0,.int .i64 0,.int .i64 0,.int .i64 0,.slice none 0 0,.int .i64 0,.int .i64 0,.int .i64 0]⟩:=by kernel_rfl
@[simp] theorem ZSN :Zl zQ 88=some ⟨.slice 9 136 [.int .i64 0,.int .i64 0,.int .i64 0,.int .i64 0,.int .i64 0,.slice none 0 0,.slice none 0 0,.slice none 0 0,.slice none 0 0],1,[.slice none 0 0]⟩:=by kernel_rfl
@[simp] theorem ZSg :ZDW zQ 88=true:=by kernel_rfl
@[simp] theorem ZSM :Zl zQ 89=some ⟨.slice 6 112 [.int .i64 0,.int .i64 0,.slice none 0 0,.slice none 0 0,.slice none 0 0,.slice none 0 0],1,[.slice none 0 0]⟩:=by kernel_rfl
@[simp] theorem ZSf :ZDW zQ 89=true:=by kernel_rfl
@[simp] theorem ZSL :Zl zQ 91=some ⟨.struct [(0,1),(1,1),(2,1),(3,1),(4,1),(5,1)],6,[.int .i64 0,.int .i64 0,.slice none 0 0,.slice none 0 0,.slice none 0 0,.slice none 0 0]⟩:=by kernel_rfl
@[simp] theorem ZRy :Zl zQ 112=some ⟨.struct [(0,1),(1,1)],2,[.slice none 0 0,.int .i64 0]⟩:=by kernel_rfl
@[simp] theorem ZRx :Zl zQ 124=some ⟨.slice 3 40 [.int .i64 0,.int .i64 0,.slice none 0 0],1,[.slice none 0 0]⟩:=by kernel_rfl
@[simp] theorem ZR5 :ZDW zQ 124=true:=by kernel_rfl
@[simp] theorem ZRw :Zl zQ 126=some ⟨.struct [(0,1),(1,1),(2,1)],3,[.int .i64 0,.int .i64 0,.slice none 0 0]⟩:=by kernel_rfl
@[simp] theorem ZRv :Zl zQ 133=some ⟨.slice 3 24 [.int .i64 0,.int .i64 0,.int .i64 0],1,[.slice none 0 0]⟩:=by kernel_rfl
@[simp] theorem ZR4 :ZDW zQ 133=true:=by kernel_rfl
@[simp] theorem ZRu :Zl zQ 154=some ⟨.struct [(0,1),(1,1),(2,1),(3,6)],9,[.int .i64 0,.int .i64 0,.int .i64 0,.int .i64 0,.int .i64 0,.slice none 0 0,.slice none 0 0,.slice none 0 0,.slice none 0 0]⟩:=by kernel_rfl
@[simp] theorem ZRt :Zl zQ 165=some ⟨.slice 3 48 [.string zE,.slice none 0 0,.int .i64 0],1,[.slice none 0 0]⟩:=by kernel_rfl
@[simp] theorem ZR3 :ZDW zQ 165=true:=by kernel_rfl
@[simp] theorem ZRs :Zl zQ 167=some ⟨.struct [(0,1),(1,1)],2,[.string zE,.slice none 0 0]⟩:=by kernel_rfl
@[simp] theorem ZRr :Zl zQ 168=some ⟨.slice 2 16 [.int .i64 0,.int .i64 0],1,[.slice none 0 0]⟩:=by kernel_rfl
@[simp] theorem ZR2 :ZDW zQ 168=true:=by kernel_rfl
@[simp] theorem ZRq :Zl zQ 170=some ⟨.struct [(0,1),(1,1),(2,1)],3,[.string zE,.slice none 0 0,.int .i64 0]⟩:=by kernel_rfl
@[simp] theorem ZRp :Zl zQ 176=some ⟨.struct [(0,1),(1,2)],3,[.int .i64 0,.int .i64 0,.int .i64 0]⟩:=by kernel_rfl
@[simp] theorem ZR8 :ZDD zQ 176=true:=by kernel_rfl
@[simp] theorem ZRo :Zl zQ 195=some ⟨.struct [(0,1),(1,2)],3,[.slice none 0 0,.int .i64 0,.int .i64 0]⟩:=by kernel_rfl
@[simp] theorem ZRn :Zl zQ 196=some ⟨.slice 3 40 [.slice none 0 0,.int .i64 0,.int .i64 0],1,[.slice none 0 0]⟩:=by kernel_rfl
@[simp] theorem ZR1 :ZDW zQ 196=true:=by kernel_rfl
@[simp] theorem ZRm :Zl zQ 197=some ⟨.slice 3 56 [.int .i64 0,.slice none 0 0,.slice none 0 0],1,[.slice none 0 0]⟩:=by kernel_rfl
@[simp] theorem ZR0 :ZDW zQ 197=true:=by kernel_rfl
@[simp] theorem ZRl :Zl zQ 220=some ⟨.struct [(0,1),(1,1),(2,1)],3,[.int .i64 0,.slice none 0 0,.slice none 0 0]⟩:=by kernel_rfl
@[simp] theorem ZRk :Zl zQ 229=some ⟨.slice 1 16 [.string zE],1,[.slice none 0 0]⟩:=by kernel_rfl
@[simp] theorem ZRz :ZDW zQ 229=true:=by kernel_rfl
attribute [simp] Tryz.underlying2 Tryz.underlying3 Tryz.underlying4 Tryz.underlying5 Tryz.underlying6 Tryz.underlying9 Tryz.underlying22 Tryz.underlying23 Tryz.underlying28 Tryz.underlying31 Tryz.underlying38 Tryz.underlying39 Tryz.underlying45 Tryz.underlying63 Tryz.underlying66 Tryz.underlying88 Tryz.underlying89 Tryz.underlying124 Tryz.underlying133 Tryz.underlying165 Tryz.underlying168 Tryz.underlying196 Tryz.underlying197 Tryz.underlying229 Tryz.results3 Tryz.results6 Tryz.results7 Tryz.results8 Tryz.results9 Tryz.results10 Tryz.results16 Tryz.results17 Tryz.results19 Tryz.results21 Tryz.results22 Tryz.results23 Tryz.results24 Tryz.results25 Tryz.results26 Tryz.results27 Tryz.results34 Tryz.results35 Tryz.results38 Tryz.results39 Tryz.results40 Tryz.results41 Tryz.results42 Tryz.results45 Tryz.results46 Tryz.results47 Tryz.results48 Tryz.results59 Tryz.results60 Tryz.results61 Tryz.results63 Tryz.results65 Tryz.results66 Tryz.results67 Tryz.results68 Tryz.results69 Tryz.results72 Tryz.results73 Tryz.results74 Tryz.results91 Tryz.results92 Tryz.results93 Tryz.results94 Tryz.results95 Tryz.results96 Tryz.results97 Tryz.results98 Tryz.results99 Tryz.results104 Tryz.results105 Tryz.results106 Tryz.results115 Tryz.results116 Tryz.results117 Tryz.results118 Tryz.results119 Tryz.results120 Tryz.results121 Tryz.results122 Tryz.results123 Tryz.results124 Tryz.results125 Tryz.results126 Tryz.results127 Tryz.results132 Tryz.results133 Tryz.results134 Tryz.results135 Tryz.results136 Tryz.results145 Tryz.results146 Tryz.results147 Tryz.results148 Tryz.results149 Tryz.results150 Tryz.results151 Tryz.results152 Tryz.results153 Tryz.results154 Tryz.results155 Tryz.results156 Tryz.results157 Tryz.results160 Tryz.results161 Tryz.results162 Tryz.results163 Tryz.results164 Tryz.results165 Tryz.results174 Tryz.results175 Tryz.results176 Tryz.results177 Tryz.results178 Tryz.results179 Tryz.results180 Tryz.results181 Tryz.results182 Tryz.results183 Tryz.results184 Tryz.results185 Tryz.results186 Tryz.results189 Tryz.results190 Tryz.results191 Tryz.results192 Tryz.results193
section
open Go.Shelf Go.RowKit Go.Lib Go.Sort
set_option maxHeartbeats 2000000 in
set_option maxRecDepth 100000 in
theorem Tryz.bld_used (b:Nat)(w:World)(h0:w.cell? ⟨b,0,none⟩=some (.pointer (some ⟨b,0,none⟩))):
  Calls zQ 44 #[.pointer (some ⟨b,0,none⟩)] w fun e w'=>e=.returned (.tuple #[])/\w'=w:=by
 obtain⟨j,hj,_⟩:=Option.map_eq_some_iff.1 Tryz.Builder_Extra_169.sizeBuilder
 have mixed:=Tryz.lays169.mixed
 have t44:=Tryz.underlying44;have a44:=Tryz.isAgg44;have z44:=Tryz.sizeOf44;have v44:=Tryz.zeroValue44;have u44:=run_underlying Tryz.underlying44
 have t42:=Tryz.underlying42;have a42:=Tryz.isAgg42;have z42:=Tryz.sizeOf42;have v42:=Tryz.zeroValue42;have u42:=run_underlying Tryz.underlying42
 have t9:=Tryz.underlying9;have a9:=Tryz.isAgg9;have z9:=Tryz.sizeOf9;have v9:=Tryz.zeroValue9;have u9:=run_underlying Tryz.underlying9
 have t4:=Tryz.underlying4;have a4:=Tryz.isAgg4;have z4:=Tryz.sizeOf4;have v4:=Tryz.zeroValue4;have u4:=run_underlying Tryz.underlying4
 have t122:=Tryz.underlying122;have a122:=Tryz.isAgg122;have z122:=Tryz.sizeOf122;have v122:=Tryz.zeroValue122;have u122:=run_underlying Tryz.underlying122
 go_enter func44,ntmps44
 go_wp2
 rw[Lib.run_neq_ptr_same w _ Tryz.underlying42 hj]
 go_wp2
 go_end0
 exact⟨rfl,rfl⟩
set_option maxHeartbeats 2000000 in
set_option maxRecDepth 100000 in
theorem Tryz.bld_fresh (b:Nat)(w:World)(h0:w.cell? ⟨b,0,none⟩=some (.pointer none))(hsh:w.shape? b=some (44,2))(hfz:w.frozen? ⟨b,0,none⟩=false):
  Calls zQ 44 #[.pointer (some ⟨b,0,none⟩)] w fun e w'=>e=.returned (.tuple #[])/\w'=w.setCell ⟨b,0,none⟩ (.pointer (some ⟨b,0,none⟩)):=by
 obtain⟨j,hj,hjs⟩:=Option.map_eq_some_iff.1 Tryz.Builder_Extra_169.sizeBuilder
 have mixed:=Tryz.lays169.mixed
 have t44:=Tryz.underlying44;have a44:=Tryz.isAgg44;have z44:=Tryz.sizeOf44;have v44:=Tryz.zeroValue44;have u44:=run_underlying Tryz.underlying44
 have t42:=Tryz.underlying42;have a42:=Tryz.isAgg42;have z42:=Tryz.sizeOf42;have v42:=Tryz.zeroValue42;have u42:=run_underlying Tryz.underlying42
 have t9:=Tryz.underlying9;have a9:=Tryz.isAgg9;have z9:=Tryz.sizeOf9;have v9:=Tryz.zeroValue9;have u9:=run_underlying Tryz.underlying9
 have t4:=Tryz.underlying4;have a4:=Tryz.isAgg4;have z4:=Tryz.sizeOf4;have v4:=Tryz.zeroValue4;have u4:=run_underlying Tryz.underlying4
 have t122:=Tryz.underlying122;have a122:=Tryz.isAgg122;have z122:=Tryz.sizeOf122;have v122:=Tryz.zeroValue122;have u122:=run_underlying Tryz.underlying122
 go_enter func44,ntmps44
 go_wp2
 rw[Lib.run_to_unsafe w ⟨b,0,none⟩ Tryz.underlying42 Tryz.underlying122 hj (by rw[hjs];decide) hsh (Nat.zero_lt_succ 1)]
 simp only[zG]
 rw[zH]
 go_wp2
 rw[run_callFunc_extern func71 (by kernel_rfl) (by kernel_rfl) (by kernel_rfl) (e:=Extern.AbiNoEscape.same) (by kernel_rfl)]
 rw[Lib.run_noEscape]
 simp only[zG]
 rw[zH]
 go_wp2
 rw[Lib.run_from_unsafe w ⟨b,0,none⟩ Tryz.underlying122 Tryz.underlying42 hj hsh Tryz.Builder_Extra_169.liesBuilder]
 simp only[zG]
 rw[zH]
 go_wp2
 go_end0
 exact⟨rfl,rfl⟩
theorem Tryz.bld_copyCheck {b:Nat}{p v:Value}{w:World}(hb:w.heap[b]? =some (.cells #[p,v] 44 (0,0)))(hp:p=.pointer none∨p=.pointer (some ⟨b,0,none⟩)):
  Calls zQ 44 #[.pointer (some ⟨b,0,none⟩)] w fun e w'=>e=.returned (.tuple #[])/\w'.heap[b]? =some (.cells #[.pointer (some ⟨b,0,none⟩),v] 44 (0,0))/\Else b w w':=by
 have c0:w.cell? ⟨b,0,none⟩=some p:=by rw[zI hb];rfl
 rcases hp with rfl|rfl
 ·refine(Tryz.bld_fresh b w c0 (by simp[World.shape?,hb]) (by simp[World.frozen?,hb])).mono ?_
  rintro e w' ⟨rfl,rfl⟩
  exact⟨rfl,by simp[World.setCell,Array.getElem?_modify,hb],Else.set b 0 _ w⟩
 ·refine(Tryz.bld_used b w c0).mono ?_
  rintro e w' ⟨rfl,rfl⟩
  exact⟨rfl,hb,rfl,rfl,rfl,rfl,fun _ _=>rfl⟩
set_option maxHeartbeats 2000000 in
set_option maxRecDepth 100000 in
theorem Tryz.bldW :ZRg zQ 44 5 18:=by
 intro b p v bs s w hb hp hv hne hlen
 obtain⟨i0,hi,hz0,hz1,hz2⟩:=info_parts Tryz.Builder_Extra_169.infoByte
 have mixed:=Tryz.lays169.mixed
 have t44:=Tryz.underlying44;have a44:=Tryz.isAgg44;have z44:=Tryz.sizeOf44;have v44:=Tryz.zeroValue44;have u44:=run_underlying Tryz.underlying44
 have t42:=Tryz.underlying42;have a42:=Tryz.isAgg42;have z42:=Tryz.sizeOf42;have v42:=Tryz.zeroValue42;have u42:=run_underlying Tryz.underlying42
 have t22:=Tryz.underlying22;have a22:=Tryz.isAgg22;have z22:=Tryz.sizeOf22;have v22:=Tryz.zeroValue22;have u22:=run_underlying Tryz.underlying22
 have t3:=Tryz.underlying3;have a3:=Tryz.isAgg3;have z3:=Tryz.sizeOf3;have v3:=Tryz.zeroValue3;have u3:=run_underlying Tryz.underlying3
 have t9:=Tryz.underlying9;have a9:=Tryz.isAgg9;have z9:=Tryz.sizeOf9;have v9:=Tryz.zeroValue9;have u9:=run_underlying Tryz.underlying9
 have t4:=Tryz.underlying4;have a4:=Tryz.isAgg4;have z4:=Tryz.sizeOf4;have v4:=Tryz.zeroValue4;have u4:=run_underlying Tryz.underlying4
 have t122:=Tryz.underlying122;have a122:=Tryz.isAgg122;have z122:=Tryz.sizeOf122;have v122:=Tryz.zeroValue122;have u122:=run_underlying Tryz.underlying122
 have t5:=Tryz.underlying5;have a5:=Tryz.isAgg5;have z5:=Tryz.sizeOf5;have v5:=Tryz.zeroValue5;have u5:=run_underlying Tryz.underlying5
 have eCC:∀args w,(callFunc 44 args).run zQ w=.ok (.enter 44 args) w:=enters_of func44 (by kernel_rfl) rfl
 go_enter func18,ntmps18
 go_wp2_with (go_at_fn 44;refine(Tryz.bld_copyCheck hb hp).mono ?_)
 rintro e w0 ⟨rfl,hb0,he0⟩
 have c1:w0.cell? ⟨b,1,none⟩=some v:=by rw[zI hb0];rfl
 have hv0:=hv.else he0 hne
 go_wp2_with (at_builtin;refine ZEy rfl _ _ 22 9 rfl Tryz.underlying22 Tryz.underlying9 hi hz0 hz1 hz2 rfl s rfl hv0 hlen ?_)
 intro v' w1 hap
 have hlt:b<w0.heap.size:=(Array.getElem?_eq_some_iff.1 hb0).1
 have hb1:w1.heap[b]? =some (.cells #[.pointer (some ⟨b,0,none⟩),v] 44 (0,0)):=by rw[hap.others hne hlt];exact hb0
 have d0:w1.cell? ⟨b,0,none⟩=some (.pointer (some ⟨b,0,none⟩)):=by rw[zI hb1];rfl
 have d1:w1.cell? ⟨b,1,none⟩=some v:=by rw[zI hb1];rfl
 have f1:w1.frozen? ⟨b,1,none⟩=false:=Lib.frozen_of_heap hb1 1
 obtain⟨ao,n',cap,rfl⟩:=hap.form hv
 go_wp2
 go_ret2
 exact⟨rfl,_,w0,w1,he0,hb0,hap,rfl⟩
end
variable (B : Nat) (hB1 : 1073741824 <= bd B) (hB2 : bd B <= 9223372036854775807 /\ ZLa B = some 0)
include hB1 hB2
theorem C.f0  (r:List ByteArray)(hF:F.f0=some r):PureCall zQ B 160 [] (am cS r):=by
 unfold F.f0 at hF
 refine zJ func160 rfl ntmps160 ?_
 cases hF
 repeat first|refine cg ?_|simp -dsimp
theorem C.f1 (r':ZB)(n:Int)(r:Int×ZB)(hF:F.f1 r' n=some r):MutCall zQ B 41 [am cU r'.f0,li r'.f1] [.ptr 0 0,li n] (li r.1) [am cU r.2.f0,li r.2.f1]:=by
 unfold F.f1 at hF
 refine zK func41 rfl ntmps41 ?_
 repeat first|refine cg ?_|simp -dsimp
 revert hF;refine aN ?_ ?_<;>intro h1 q2 hF
 ·repeat first|refine cg ?_|simp -dsimp[h1,q2]
  revert hF;refine aS ?_ ?_<;>intro h3 q4 hF
  ·have z5:((r'.f0.length:Int)=0):=auz
   cases hF
   repeat first|refine cg ?_|simp -dsimp[h1,q2,h3,z5]
  ·have z5:¬((r'.f0.length:Int)=0):=auz
   repeat first|refine cg ?_|simp -dsimp[h1,q2,h3,q4,z5]
   revert hF;refine aS ?_ ?_<;>intro h6 q7 hF
   ·have hF:=ob hF;obtain⟨x,e8a,hF⟩:=hF
    have e8a:=ZO e8a;obtain⟨ne8,e8⟩:=e8a
    have le8:=ZD e8
    have hF:=oc hF;obtain⟨c9,hF⟩:=hF
    cases hF
    repeat first|refine cg ?_|simp -dsimp[h1,q2,h3,q4,z5,h6,↓e8]
   ·repeat first|refine cg ?_|simp -dsimp[h1,q2,h3,q4,z5,h6,q7]
    refine zM follows ?_
    have hF:=oc hF;obtain⟨c10,hF⟩:=hF
    have hF:=ob hF;obtain⟨x11,e12a,hF⟩:=hF
    have e12a:=ZO e12a;obtain⟨ne12,e12⟩:=e12a
    have le12:=ZD e12
    have hF:=ob hF;obtain⟨x13,e14a,hF⟩:=hF
    have e14a:=ZO e14a;obtain⟨ne14,e14⟩:=e14a
    have le14:=ZD e14
    have hF:=oc hF;obtain⟨c15,hF⟩:=hF
    cases hF
    repeat first|refine cg ?_|simp -dsimp[h1,q2,h3,q4,z5,h6,q7,↓e12,↓e14]
 ·cases hF
  repeat first|refine cg ?_|simp -dsimp[h1,q2]
theorem CC.f2 (s:ByteArray)(c':Int):(∀(out:List ByteArray) (from':Nat) (i:Nat) (o:List ByteArray),F.f2 s c' out from' i=some o->∀(c:Code),Zb [1,1,1,0,1,0,0] (ZK Tryz.f181)=some c->∀(Q:Exit->ASt->Prop),(Q (.exit 0) ⟨[(5,.own 0 (zA (α:=ByteArray) o))],[.elems 1 (zB cS o)]⟩)->ALoopU zQ B 0 36 (hold c .mk) ⟨[(0,.lit (.string s)),(1,.lit (.int .u8 c')),(5,.own 0 (zA (α:=ByteArray) out)),(6,li (from':Int)),(7,li (i:Int))],[.elems 1 (zB cS out)]⟩ (hold Q .mk)):=by
 refine F.f2.partial_correctness s c'
  _
  ?_
 ·intro _f_f2 ih_f2 out from' i o hF
  refine ZJ rfl fun Q hq hk hs=> ?_
  have d0:=hs 0 _ rfl
  simp -dsimp[zS]at d0
  clear hk hs
  refine eN ?_
  repeat first|refine cg ?_|simp -dsimp
  revert hF;refine aS ?_ ?_<;>intro h1 q2 hF
  ·have z3:((i:Int)<=(s.size:Int)):=auz
   repeat first|refine cg ?_|simp -dsimp[h1,z3]
   revert hF;refine aN ?_ ?_<;>intro h4 q5 hF
   ·have z6:¬((i:Int)=(s.size:Int)):=auz
    have hF:=oc hF;obtain⟨c7,hF⟩:=hF
    repeat first|refine cg ?_|simp -dsimp[h1,z3,h4,q5,z6]
    revert hF;refine aS ?_ ?_<;>intro h8 q9 hF
    ·have hF:=oc hF;obtain⟨c10,hF⟩:=hF
     have hF:=oc hF;obtain⟨c11,hF⟩:=hF
     have hF:=oc hF;obtain⟨c12,hF⟩:=hF
     have w13:i64.wrap ((i:Int)+1)=(i:Int)+1:=ZF (by omega) (by omega)
     have w14:i64.wrap ((i:Int)+1)=(i:Int)+1:=ZF (by omega) (by omega)
     repeat first|refine cg ?_|simp -dsimp[h1,z3,h4,q5,z6,h8,w13,w14]
     refine zT ((ih_f2 (out++[s.extract from' i]) (i+1) (i+1) o hF) _ rfl _ hq)
    ·have hF:=oc hF;obtain⟨c15,hF⟩:=hF
     have w16:i64.wrap ((i:Int)+1)=(i:Int)+1:=ZF (by omega) (by omega)
     repeat first|refine cg ?_|simp -dsimp[h1,z3,h4,q5,z6,h8,q9,w16]
     refine zT ((ih_f2 out from' (i+1) o hF) _ rfl _ hq)
   ·have z6:((i:Int)=(s.size:Int)):=auz
    have hF:=oc hF;obtain⟨c17,hF⟩:=hF
    have hF:=oc hF;obtain⟨c18,hF⟩:=hF
    have hF:=oc hF;obtain⟨c19,hF⟩:=hF
    have w20:i64.wrap ((i:Int)+1)=(i:Int)+1:=ZF (by omega) (by omega)
    have w21:i64.wrap ((i:Int)+1)=(i:Int)+1:=ZF (by omega) (by omega)
    repeat first|refine cg ?_|simp -dsimp[h1,z3,h4,q5,z6,w20,w21]
    refine zT ((ih_f2 (out++[s.extract from' i]) (i+1) (i+1) o hF) _ rfl _ hq)
  ·have z3:¬((i:Int)<=(s.size:Int)):=auz
   cases hF
   repeat first|refine cg ?_|simp -dsimp[h1,q2,z3]
   refine zU hq
theorem C.f3 (s:ByteArray)(c':Int)(r:List ByteArray)(hF:F.f3 s c'=some r):PureCall zQ B 181 [.lit (.string s),.lit (.int .u8 c')] (am cS r):=by
 unfold F.f3 at hF
 refine zJ func181 rfl ntmps181 ?_
 repeat first|refine cg ?_|simp -dsimp
 obtain⟨o',ho22,hF⟩:=ob hF
 refine zV (((CC.f2 B hB1 hB2 s c') [] 0 0 o' ho22) _ rfl _ ?_)
 cases hF
 repeat first|refine cg ?_|simp -dsimp
theorem CC.f4 (names:List ByteArray)(s:ByteArray):(∀(i:Nat) (o:Lo Int Unit),F.f4 names s i=some o->∀(c:Code),Zb [1,1,0,1,0,0] (ZK Tryz.f191)=some c->∀(Q:Exit->ASt->Prop),o.post (fun r=>∀st,ZA2 zQ Tryz.f191 (fun r' _=>r'.le (li r)) .ret st->Q .ret st) (fun s=>Q (.exit 0) ⟨[],[]⟩)->ALoopU zQ B 0 21 (hold c .mk) ⟨[(0,am cS names),(1,.lit (.string s)),(5,li (i:Int))],[]⟩ (hold Q .mk)):=by
 refine F.f4.partial_correctness names s
  _
  ?_
 ·intro _f_f4 ih_f4 i o hF
  refine ZJ rfl fun Q hq hk hs=> ?_
  have b0:=hk 0
  simp -dsimp at b0
  clear hk hs
  refine eN ?_
  repeat first|refine cg ?_|simp -dsimp
  revert hF;refine aS ?_ ?_<;>intro h3 q4 hF
  ·have z5:((i:Int)<(names.length:Int)):=auz
   obtain⟨x,e6,hF⟩:=ob hF
   have le6:=ZD e6
   repeat first|refine cg ?_|simp -dsimp[h3,z5,↓e6]
   revert hF;refine aS ?_ ?_<;>intro h7 q8 hF
   ·cases hF
    repeat first|refine cg ?_|simp -dsimp[h7]
    refine lG _ (gR _) (hq _ ?_)
    repeat first|refine cg ?_|simp -dsimp
   ·have w9:i64.wrap ((i:Int)+1)=(i:Int)+1:=ZF (by omega) (by omega)
    repeat first|refine cg ?_|simp -dsimp[q8,w9]
    refine zT ((ih_f4 (i+1) o hF) _ rfl _ hq)
  ·have z5:¬((i:Int)<(names.length:Int)):=auz
   cases hF
   repeat first|refine cg ?_|simp -dsimp[h3,q4,z5]
   refine zU hq
theorem C.f5 (names:List ByteArray)(s:ByteArray)(r:Int)(hF:F.f5 names s=some r):PureCall zQ B 191 [am cS names,.lit (.string s)] (li r):=by
 unfold F.f5 at hF
 refine zJ func191 rfl ntmps191 ?_
 repeat first|refine cg ?_|simp -dsimp
 revert hF;refine aS ?_ ?_<;>intro h1 q2 hF
 ·cases hF
  repeat first|refine cg ?_|simp -dsimp[h1]
 ·repeat first|refine cg ?_|simp -dsimp[q2]
  obtain⟨o',ho10,hF⟩:=ob hF
  refine zV (((CC.f4 B hB1 hB2 names s) 0 o' ho10) _ rfl _ ?_)
  rcases o' with r0|sx
  ·dsimp only at hF
   cases hF
   intro st h
   simpa using h
  ·dsimp only at hF
   cases hF
   repeat first|refine cg ?_|simp -dsimp
theorem C.f6 (names:List ByteArray)(s:ByteArray)(r:Ty)(hF:F.f6 names s=some r):PureCall zQ B 189 [am cS names,.lit (.string s)] (.agg [li r.data,li r.index]):=by
 unfold F.f6 at hF
 refine zJ func189 rfl ntmps189 ?_
 repeat first|refine cg ?_|simp -dsimp
 revert hF;refine aS ?_ ?_<;>intro h1 q2 hF
 ·cases hF
  repeat first|refine cg ?_|simp -dsimp[h1]
 ·obtain⟨c3,hF⟩:=oc hF
  repeat first|refine cg ?_|simp -dsimp[q2]
  obtain⟨v,e4,hF⟩:=ob hF
  refine((C.f5 B hB1 hB2 names (s.extract 0 1) v e4)).goI ?_
  repeat first|refine cg ?_|simp -dsimp
  revert hF;refine aS ?_ ?_<;>intro h5 q6 hF
  ·cases hF
   repeat first|refine cg ?_|simp -dsimp[h5]
  ·repeat first|refine cg ?_|simp -dsimp[q6]
   revert hF;refine aS ?_ ?_<;>intro h7 q8 hF
   ·have z9:((s.size:Int)=2):=auz
    obtain⟨c10,hF⟩:=oc hF
    repeat first|refine cg ?_|simp -dsimp[h7,z9]
    revert hF;refine aS ?_ ?_<;>intro h11 q12 hF
    ·have z13:(48<=((byteAt s 1:Nat):Int)):=auz
     repeat first|refine cg ?_|simp -dsimp[h11,z13]
     revert hF;refine aS ?_ ?_<;>intro h14 q15 hF
     ·have z16:(((byteAt s 1:Nat):Int)<=57):=auz
      cases hF
      repeat first|refine cg ?_|simp -dsimp[h14,z16]
     ·have z16:¬(((byteAt s 1:Nat):Int)<=57):=auz
      cases hF
      repeat first|refine cg ?_|simp -dsimp[h14,q15,z16]
    ·have z13:¬(48<=((byteAt s 1:Nat):Int)):=auz
     cases hF
     repeat first|refine cg ?_|simp -dsimp[h11,q12,z13]
   ·have z9:¬((s.size:Int)=2):=auz
    cases hF
    repeat first|refine cg ?_|simp -dsimp[h7,q8,z9]
theorem CC.f7 (names:List ByteArray)(s:ByteArray)(x:ByteArray)(v21:List ByteArray):(∀(out:List Ty) (i:Nat) (o:List Ty),F.f7 names s x v21 out i=some o->∀(c:Code),Zb [1,1,1,1,1,1,1,0,1,0,0] (ZK Tryz.f182)=some c->∀(Q:Exit->ASt->Prop),(Q (.exit 0) ⟨[(4,.ptr 0 0),(5,.ptr 1 0)],[.cells [.lit (.string zE),.lit (.slice none 0 0),li 0],.cells [.lit (.string x),.own 2 (zA (α:=Ty) o),.lit (.int .i64 (i64.wrap (i64.wrap ((byteAt s ((i64.wrap ((s.size:Int) -1)).toNat):Nat):Int) -48)))],.elems 2 (zB zX o)]⟩)->ALoopU zQ B 0 83 (hold c .mk) ⟨[(0,am cS names),(4,.ptr 0 0),(5,.ptr 1 0),(7,am cS v21),(8,li (i:Int))],[.cells [.lit (.string zE),.lit (.slice none 0 0),li 0],.cells [.lit (.string x),.own 2 (zA (α:=Ty) out),.lit (.int .i64 (i64.wrap (i64.wrap ((byteAt s ((i64.wrap ((s.size:Int) -1)).toNat):Nat):Int) -48)))],.elems 2 (zB zX out)]⟩ (hold Q .mk)):=by
 refine F.f7.partial_correctness names s x v21
  _
  ?_
 ·intro _f_f7 ih_f7 out i o hF
  refine ZJ rfl fun Q hq hk hs=> ?_
  have b0:=hk 0
  simp -dsimp at b0
  have b7:=hk 7
  simp -dsimp at b7
  have d2:=hs 2 _ rfl
  simp -dsimp[zS]at d2
  clear hk hs
  refine eN ?_
  repeat first|refine cg ?_|simp -dsimp
  revert hF;refine aS ?_ ?_<;>intro h23 q24 hF
  ·have z25:((i:Int)<(v21.length:Int)):=auz
   repeat first|refine cg ?_|simp -dsimp[h23,z25]
   revert hF;refine aS ?_ ?_<;>intro h26 q27 hF
   ·have z28:((i:Int)<=3):=auz
    repeat first|refine cg ?_|simp -dsimp[h26,z28]
    refine zL [] [(0,1),(0,1),(0,0),(0,0),(0,0),(0,0),(0,0),(0,3),(0,3),(0,3),(2,2),(0,3)] [0,2,1,1,1,1,1,1,1,1,1,1] follows ?_
    obtain⟨x29,e30,hF⟩:=ob hF
    have le30:=ZD e30
    repeat first|refine cg ?_|simp -dsimp[↓e30]
    obtain⟨v31,e32,hF⟩:=ob hF
    refine((C.f6 B hB1 hB2 names x29 v31 e32)).pgoW (by simp_all) (by simp) ?_
    obtain⟨c33,hF⟩:=oc hF
    have w34:i64.wrap ((i:Int)+1)=(i:Int)+1:=ZF (by omega) (by omega)
    repeat first|refine cg ?_|simp -dsimp[w34]
    refine zT ((ih_f7 (out++[v31]) (i+1) o hF) _ rfl _ hq)
   ·have z28:¬((i:Int)<=3):=auz
    cases hF
    repeat first|refine cg ?_|simp -dsimp[h26,q27,z28]
    refine zU hq
  ·have z25:¬((i:Int)<(v21.length:Int)):=auz
   cases hF
   repeat first|refine cg ?_|simp -dsimp[h23,q24,z25]
   refine zU hq
theorem CC.f8 (names:List ByteArray)(x38:ByteArray)(v49:List ByteArray):(∀(out51:List Ty) (i52:Nat) (o:List Ty),F.f8 names x38 v49 out51 i52=some o->∀(c:Code),Zb [1,1,1,1,1,1,1,0,1,0,0] (ZK Tryz.f182)=some c->∀(Q:Exit->ASt->Prop),(Q (.exit 0) ⟨[(4,.ptr 0 0),(5,.ptr 1 0)],[.cells [.lit (.string zE),.lit (.slice none 0 0),li 0],.cells [.lit (.string x38),.own 2 (zA (α:=Ty) o),li 0],.elems 2 (zB zX o)]⟩)->ALoopU zQ B 0 83 (hold c .mk) ⟨[(0,am cS names),(4,.ptr 0 0),(5,.ptr 1 0),(7,am cS v49),(8,li (i52:Int))],[.cells [.lit (.string zE),.lit (.slice none 0 0),li 0],.cells [.lit (.string x38),.own 2 (zA (α:=Ty) out51),li 0],.elems 2 (zB zX out51)]⟩ (hold Q .mk)):=by
 refine F.f8.partial_correctness names x38 v49
  _
  ?_
 ·intro _f_f8 ih_f8 out51 i52 o hF
  refine ZJ rfl fun Q hq hk hs=> ?_
  have b0:=hk 0
  simp -dsimp at b0
  have b7:=hk 7
  simp -dsimp at b7
  have d2:=hs 2 _ rfl
  simp -dsimp[zS]at d2
  clear hk hs
  refine eN ?_
  repeat first|refine cg ?_|simp -dsimp
  revert hF;refine aS ?_ ?_<;>intro h53 q54 hF
  ·have z55:((i52:Int)<(v49.length:Int)):=auz
   repeat first|refine cg ?_|simp -dsimp[h53,z55]
   revert hF;refine aS ?_ ?_<;>intro h56 q57 hF
   ·have z58:((i52:Int)<=3):=auz
    repeat first|refine cg ?_|simp -dsimp[h56,z58]
    refine zL [] [(0,1),(0,1),(0,0),(0,0),(0,0),(0,0),(0,0),(0,3),(0,3),(0,3),(2,2),(0,3)] [0,2,1,1,1,1,1,1,1,1,1,1] follows ?_
    obtain⟨x59,e60,hF⟩:=ob hF
    have le60:=ZD e60
    repeat first|refine cg ?_|simp -dsimp[↓e60]
    obtain⟨v61,e62,hF⟩:=ob hF
    refine((C.f6 B hB1 hB2 names x59 v61 e62)).pgoW (by simp_all) (by simp) ?_
    obtain⟨c63,hF⟩:=oc hF
    have w64:i64.wrap ((i52:Int)+1)=(i52:Int)+1:=ZF (by omega) (by omega)
    repeat first|refine cg ?_|simp -dsimp[w64]
    refine zT ((ih_f8 (out51++[v61]) (i52+1) o hF) _ rfl _ hq)
   ·have z58:¬((i52:Int)<=3):=auz
    cases hF
    repeat first|refine cg ?_|simp -dsimp[h56,q57,z58]
    refine zU hq
  ·have z55:¬((i52:Int)<(v49.length:Int)):=auz
   cases hF
   repeat first|refine cg ?_|simp -dsimp[h53,q54,z55]
   refine zU hq
theorem CC.f9 (names:List ByteArray)(x69:ByteArray)(v80:List ByteArray):(∀(out82:List Ty) (i83:Nat) (o:List Ty),F.f9 names x69 v80 out82 i83=some o->∀(c:Code),Zb [1,1,1,1,1,1,1,0,1,0,0] (ZK Tryz.f182)=some c->∀(Q:Exit->ASt->Prop),(Q (.exit 0) ⟨[(4,.ptr 0 0),(5,.ptr 1 0)],[.cells [.lit (.string zE),.lit (.slice none 0 0),li 0],.cells [.lit (.string x69),.own 2 (zA (α:=Ty) o),li 0],.elems 2 (zB zX o)]⟩)->ALoopU zQ B 0 83 (hold c .mk) ⟨[(0,am cS names),(4,.ptr 0 0),(5,.ptr 1 0),(7,am cS v80),(8,li (i83:Int))],[.cells [.lit (.string zE),.lit (.slice none 0 0),li 0],.cells [.lit (.string x69),.own 2 (zA (α:=Ty) out82),li 0],.elems 2 (zB zX out82)]⟩ (hold Q .mk)):=by
 refine F.f9.partial_correctness names x69 v80
  _
  ?_
 ·intro _f_f9 ih_f9 out82 i83 o hF
  refine ZJ rfl fun Q hq hk hs=> ?_
  have b0:=hk 0
  simp -dsimp at b0
  have b7:=hk 7
  simp -dsimp at b7
  have d2:=hs 2 _ rfl
  simp -dsimp[zS]at d2
  clear hk hs
  refine eN ?_
  repeat first|refine cg ?_|simp -dsimp
  revert hF;refine aS ?_ ?_<;>intro h84 q85 hF
  ·have z86:((i83:Int)<(v80.length:Int)):=auz
   repeat first|refine cg ?_|simp -dsimp[h84,z86]
   revert hF;refine aS ?_ ?_<;>intro h87 q88 hF
   ·have z89:((i83:Int)<=3):=auz
    repeat first|refine cg ?_|simp -dsimp[h87,z89]
    refine zL [] [(0,1),(0,1),(0,0),(0,0),(0,0),(0,0),(0,0),(0,3),(0,3),(0,3),(2,2),(0,3)] [0,2,1,1,1,1,1,1,1,1,1,1] follows ?_
    obtain⟨x90,e91,hF⟩:=ob hF
    have le91:=ZD e91
    repeat first|refine cg ?_|simp -dsimp[↓e91]
    obtain⟨v92,e93,hF⟩:=ob hF
    refine((C.f6 B hB1 hB2 names x90 v92 e93)).pgoW (by simp_all) (by simp) ?_
    obtain⟨c94,hF⟩:=oc hF
    have w95:i64.wrap ((i83:Int)+1)=(i83:Int)+1:=ZF (by omega) (by omega)
    repeat first|refine cg ?_|simp -dsimp[w95]
    refine zT ((ih_f9 (out82++[v92]) (i83+1) o hF) _ rfl _ hq)
   ·have z89:¬((i83:Int)<=3):=auz
    cases hF
    repeat first|refine cg ?_|simp -dsimp[h87,q88,z89]
    refine zU hq
  ·have z86:¬((i83:Int)<(v80.length:Int)):=auz
   cases hF
   repeat first|refine cg ?_|simp -dsimp[h84,q85,z86]
   refine zU hq
theorem C.f10 (names:List ByteArray)(s:ByteArray)(r:Ctor)(hF:F.f10 names s=some r):PureCall zQ B 182 [am cS names,.lit (.string s)] (.agg [.lit (.string r.name),am zX r.args,li r.index]):=by
 unfold F.f10 at hF
 refine zJ func182 rfl ntmps182 ?_
 repeat first|refine cg ?_|simp -dsimp
 revert hF;refine aS ?_ ?_<;>intro h1 q2 hF
 ·have z3:(2<(s.size:Int)):=auz
  have hF:=oc hF;obtain⟨c4,hF⟩:=hF
  repeat first|refine cg ?_|simp -dsimp[h1,z3]
  revert hF;refine aS ?_ ?_<;>intro h5 q6 hF
  ·have z7:(((byteAt s ((i64.wrap ((s.size:Int) -2)).toNat):Nat):Int)=58):=auz
   have hF:=oc hF;obtain⟨c8,hF⟩:=hF
   have hF:=oc hF;obtain⟨c9,hF⟩:=hF
   repeat first|refine cg ?_|simp -dsimp[h5,z7]
   have hF:=ob hF;obtain⟨v,e10,hF⟩:=hF
   refine((C.f3 B hB1 hB2 (s.extract 0 ((i64.wrap ((s.size:Int) -2)).toNat)) 40 v e10)).goI ?_
   have hF:=ob hF;obtain⟨x,e11,hF⟩:=hF
   have le11:=ZD e11
   repeat first|refine cg ?_|simp -dsimp[↓e11]
   revert hF;refine aN ?_ ?_<;>intro h12 q13 hF
   ·have z14:¬((v.length:Int)<2):=auz
    have hF:=ob hF;obtain⟨x15,e16,hF⟩:=hF
    have le16:=ZD e16
    repeat first|refine cg ?_|simp -dsimp[↓e11,h12,q13,z14,↓e16]
    revert hF;refine aS ?_ ?_<;>intro h17 q18 hF
    ·have z19:((x15.size:Int)=0):=auz
     cases hF
     repeat first|refine cg ?_|simp -dsimp[↓e11,↓e16,h17,z19]
    ·have z19:¬((x15.size:Int)=0):=auz
     repeat first|refine cg ?_|simp -dsimp[↓e11,↓e16,h17,q18,z19]
     refine zM follows ?_
     have hF:=oc hF;obtain⟨c20,hF⟩:=hF
     repeat first|refine cg ?_|simp -dsimp[↓e11,↓e16]
     have hF:=ob hF;obtain⟨v21,e22,hF⟩:=hF
     refine((C.f3 B hB1 hB2 (x15.extract 0 ((i64.wrap ((x15.size:Int) -1)).toNat)) 44 v21 e22)).pgoW (by simp_all) (by simp) ?_
     repeat first|refine cg ?_|simp -dsimp[↓e11,↓e16]
     have hF:=ob hF;obtain⟨o',ho35,hF⟩:=hF
     refine zW ⟨[(0,.arr (zB cS names)),(4,.ptr 0 0),(5,.ptr 1 0),(7,.arr (zB cS v21)),(8,.lit (.int .i64 0))],[.cells [.lit (.string zE),.lit (.slice none 0 0),.lit (.int .i64 0)],.cells [.lit (.string x),.own 2 (zA (α:=Ty) []),.lit (.int .i64 (i64.wrap (i64.wrap ((byteAt s ((i64.wrap ((s.size:Int) -1)).toNat):Nat):Int) -48)))],.elems 2 (zB zX [])]⟩ (by refine zY (yA 1 1 2 (by simp -dsimp;rfl) (by simp -dsimp)) ?_;exact(gT (by simp) (by simp_all))) ?_
     refine((CC.f7 B hB1 hB2 names s x v21) [] 0 o' ho35) _ rfl _ ?_
     cases hF
     repeat first|refine cg ?_|simp -dsimp
   ·have z14:((v.length:Int)<2):=auz
    cases hF
    repeat first|refine cg ?_|simp -dsimp[↓e11,h12,q13,z14]
  ·have z7:¬(((byteAt s ((i64.wrap ((s.size:Int) -2)).toNat):Nat):Int)=58):=auz
   repeat first|refine cg ?_|simp -dsimp[h5,q6,z7]
   have hF:=ob hF;obtain⟨v36,e37,hF⟩:=hF
   refine((C.f3 B hB1 hB2 s 40 v36 e37)).goI ?_
   have hF:=ob hF;obtain⟨x38,e39,hF⟩:=hF
   have le39:=ZD e39
   repeat first|refine cg ?_|simp -dsimp[↓e39]
   revert hF;refine aN ?_ ?_<;>intro h40 q41 hF
   ·have z42:¬((v36.length:Int)<2):=auz
    have hF:=ob hF;obtain⟨x43,e44,hF⟩:=hF
    have le44:=ZD e44
    repeat first|refine cg ?_|simp -dsimp[↓e39,h40,q41,z42,↓e44]
    revert hF;refine aS ?_ ?_<;>intro h45 q46 hF
    ·have z47:((x43.size:Int)=0):=auz
     cases hF
     repeat first|refine cg ?_|simp -dsimp[↓e39,↓e44,h45,z47]
    ·have z47:¬((x43.size:Int)=0):=auz
     repeat first|refine cg ?_|simp -dsimp[↓e39,↓e44,h45,q46,z47]
     refine zM follows ?_
     have hF:=oc hF;obtain⟨c48,hF⟩:=hF
     repeat first|refine cg ?_|simp -dsimp[↓e39,↓e44]
     have hF:=ob hF;obtain⟨v49,e50,hF⟩:=hF
     refine((C.f3 B hB1 hB2 (x43.extract 0 ((i64.wrap ((x43.size:Int) -1)).toNat)) 44 v49 e50)).pgoW (by simp_all) (by simp) ?_
     repeat first|refine cg ?_|simp -dsimp[↓e39,↓e44]
     have hF:=ob hF;obtain⟨o'66,ho65,hF⟩:=hF
     refine zW ⟨[(0,.arr (zB cS names)),(4,.ptr 0 0),(5,.ptr 1 0),(7,.arr (zB cS v49)),(8,.lit (.int .i64 0))],[.cells [.lit (.string zE),.lit (.slice none 0 0),.lit (.int .i64 0)],.cells [.lit (.string x38),.own 2 (zA (α:=Ty) []),.lit (.int .i64 0)],.elems 2 (zB zX [])]⟩ (by refine zY (yA 1 1 2 (by simp -dsimp;rfl) (by simp -dsimp)) ?_;exact(gT (by simp) (by simp_all))) ?_
     refine((CC.f8 B hB1 hB2 names x38 v49) [] 0 o'66 ho65) _ rfl _ ?_
     cases hF
     repeat first|refine cg ?_|simp -dsimp
   ·have z42:((v36.length:Int)<2):=auz
    cases hF
    repeat first|refine cg ?_|simp -dsimp[↓e39,h40,q41,z42]
 ·have z3:¬(2<(s.size:Int)):=auz
  repeat first|refine cg ?_|simp -dsimp[h1,q2,z3]
  have hF:=ob hF;obtain⟨v67,e68,hF⟩:=hF
  refine((C.f3 B hB1 hB2 s 40 v67 e68)).goI ?_
  have hF:=ob hF;obtain⟨x69,e70,hF⟩:=hF
  have le70:=ZD e70
  repeat first|refine cg ?_|simp -dsimp[↓e70]
  revert hF;refine aN ?_ ?_<;>intro h71 q72 hF
  ·have z73:¬((v67.length:Int)<2):=auz
   have hF:=ob hF;obtain⟨x74,e75,hF⟩:=hF
   have le75:=ZD e75
   repeat first|refine cg ?_|simp -dsimp[↓e70,h71,q72,z73,↓e75]
   revert hF;refine aS ?_ ?_<;>intro h76 q77 hF
   ·have z78:((x74.size:Int)=0):=auz
    cases hF
    repeat first|refine cg ?_|simp -dsimp[↓e70,↓e75,h76,z78]
   ·have z78:¬((x74.size:Int)=0):=auz
    repeat first|refine cg ?_|simp -dsimp[↓e70,↓e75,h76,q77,z78]
    refine zM follows ?_
    have hF:=oc hF;obtain⟨c79,hF⟩:=hF
    repeat first|refine cg ?_|simp -dsimp[↓e70,↓e75]
    have hF:=ob hF;obtain⟨v80,e81,hF⟩:=hF
    refine((C.f3 B hB1 hB2 (x74.extract 0 ((i64.wrap ((x74.size:Int) -1)).toNat)) 44 v80 e81)).pgoW (by simp_all) (by simp) ?_
    repeat first|refine cg ?_|simp -dsimp[↓e70,↓e75]
    have hF:=ob hF;obtain⟨o'97,ho96,hF⟩:=hF
    refine zW ⟨[(0,.arr (zB cS names)),(4,.ptr 0 0),(5,.ptr 1 0),(7,.arr (zB cS v80)),(8,.lit (.int .i64 0))],[.cells [.lit (.string zE),.lit (.slice none 0 0),.lit (.int .i64 0)],.cells [.lit (.string x69),.own 2 (zA (α:=Ty) []),.lit (.int .i64 0)],.elems 2 (zB zX [])]⟩ (by refine zY (yA 1 1 2 (by simp -dsimp;rfl) (by simp -dsimp)) ?_;exact(gT (by simp) (by simp_all))) ?_
    refine((CC.f9 B hB1 hB2 names x69 v80) [] 0 o'97 ho96) _ rfl _ ?_
    cases hF
    repeat first|refine cg ?_|simp -dsimp
  ·have z73:((v67.length:Int)<2):=auz
   cases hF
   repeat first|refine cg ?_|simp -dsimp[↓e70,h71,q72,z73]
theorem C.f11 (c':Int)(r:Bool)(hF:F.f11 c'=some r):PureCall zQ B 145 [.lit (.int .u8 c')] (.lit (.bool r)):=by
 unfold F.f11 at hF
 refine zJ func145 rfl ntmps145 ?_
 repeat first|refine cg ?_|simp -dsimp
 revert hF;refine aS ?_ ?_<;>intro h1 q2 hF
 ·cases hF
  repeat first|refine cg ?_|simp -dsimp[h1]
 ·cases hF
  repeat first|refine cg ?_|simp -dsimp[q2]
theorem C.f12 (s:ByteArray)(r:Bool)(hF:F.f12 s=some r):PureCall zQ B 115 [.lit (.string s)] (.lit (.bool r)):=by
 unfold F.f12 at hF
 refine zJ func115 rfl ntmps115 ?_
 repeat first|refine cg ?_|simp -dsimp
 revert hF;refine aS ?_ ?_<;>intro h1 q2 hF
 ·have z3:((s.size:Int)=1):=auz
  obtain⟨c4,hF⟩:=oc hF
  repeat first|refine cg ?_|simp -dsimp[h1,z3]
  obtain⟨v,e5,hF⟩:=ob hF
  refine((C.f11 B hB1 hB2 ((byteAt s 0:Nat):Int) v e5)).goI ?_
  repeat first|refine cg ?_|simp -dsimp[h1,z3]
  revert hF;refine aS (fun h6 q7 hF=> ?_) (fun h6 q7 hF=> ?_)
  ·cases hF
   repeat first|refine cg ?_|simp -dsimp[h1,z3,h6]
  ·cases hF
   repeat first|refine cg ?_|simp -dsimp[h1,z3,h6,q7]
 ·have z3:¬((s.size:Int)=1):=auz
  cases hF
  repeat first|refine cg ?_|simp -dsimp[h1,q2,z3]
theorem CC.f13 (s:ByteArray):(∀(i:Nat) (o:Lo Bool Unit),F.f13 s i=some o->∀(c:Code),Zb [1,1,0,1,0,0] (ZK Tryz.f146)=some c->∀(Q:Exit->ASt->Prop),o.post (fun r=>∀st,ZA2 zQ Tryz.f146 (fun r' _=>r'.le (.lit (.bool r))) .ret st->Q .ret st) (fun s=>Q (.exit 0) ⟨[],[]⟩)->ALoopU zQ B 0 34 (hold c .mk) ⟨[(0,.lit (.string s)),(3,li (i:Int))],[]⟩ (hold Q .mk)):=by
 refine F.f13.partial_correctness s
  _
  ?_
 ·intro _f_f13 ih_f13 i o hF
  refine ZJ rfl fun Q hq hk hs=> ?_
  clear hk hs
  refine eN ?_
  repeat first|refine cg ?_|simp -dsimp
  revert hF;refine aS ?_ ?_<;>intro h11 q12 hF
  ·have z13:((i:Int)<(s.size:Int)):=auz
   repeat first|refine cg ?_|simp -dsimp[h11,z13]
   revert hF;refine aN ?_ ?_<;>intro h14 q15 hF
   ·have z16:¬(((byteAt s i:Nat):Int)<97):=auz
    repeat first|refine cg ?_|simp -dsimp[h11,z13,h14,q15,z16]
    revert hF;refine aS ?_ ?_<;>intro h17 q18 hF
    ·have z19:(122<((byteAt s i:Nat):Int)):=auz
     cases hF
     repeat first|refine cg ?_|simp -dsimp[h11,z13,h14,q15,z16,h17,z19]
     refine lG _ (gR _) (hq _ ?_)
     repeat first|refine cg ?_|simp -dsimp[h11,z13,h14,q15,z16,h17,z19]
    ·have z19:¬(122<((byteAt s i:Nat):Int)):=auz
     obtain⟨c20,hF⟩:=oc hF
     have w21:i64.wrap ((i:Int)+1)=(i:Int)+1:=ZF (by omega) (by omega)
     repeat first|refine cg ?_|simp -dsimp[h11,z13,h14,q15,z16,h17,q18,z19,w21]
     refine zT ((ih_f13 (i+1) o hF) _ rfl _ hq)
   ·have z16:(((byteAt s i:Nat):Int)<97):=auz
    cases hF
    repeat first|refine cg ?_|simp -dsimp[h11,z13,h14,q15,z16]
    refine lG _ (gR _) (hq _ ?_)
    repeat first|refine cg ?_|simp -dsimp[h11,z13,h14,q15,z16]
  ·have z13:¬((i:Int)<(s.size:Int)):=auz
   cases hF
   repeat first|refine cg ?_|simp -dsimp[h11,q12,z13]
   refine zU hq
theorem C.f14 (s:ByteArray)(r:Bool)(hF:F.f14 s=some r):PureCall zQ B 146 [.lit (.string s)] (.lit (.bool r)):=by
 unfold F.f14 at hF
 refine zJ func146 rfl ntmps146 ?_
 repeat first|refine cg ?_|simp -dsimp
 revert hF;refine aN ?_ ?_<;>intro h1 q2 hF
 ·have z3:¬((s.size:Int)=0):=auz
  repeat first|refine cg ?_|simp -dsimp[h1,q2,z3]
  revert hF;refine aN ?_ ?_<;>intro h4 q5 hF
  ·have z6:¬(5<(s.size:Int)):=auz
   obtain⟨c7,hF⟩:=oc hF
   repeat first|refine cg ?_|simp -dsimp[h1,q2,z3,h4,q5,z6]
   obtain⟨v,e8,hF⟩:=ob hF
   refine((C.f11 B hB1 hB2 ((byteAt s 0:Nat):Int) v e8)).goI ?_
   repeat first|refine cg ?_|simp -dsimp[h1,q2,z3,h4,q5,z6]
   revert hF;refine aN (fun h9 q10 hF=> ?_) (fun h9 q10 hF=> ?_)
   ·cases hF
    repeat first|refine cg ?_|simp -dsimp[h1,q2,z3,h4,q5,z6,h9,q10]
   ·repeat first|refine cg ?_|simp -dsimp[h1,q2,z3,h4,q5,z6,h9,q10]
    obtain⟨o',ho22,hF⟩:=ob hF
    refine zV (((CC.f13 B hB1 hB2 s) 1 o' ho22) _ rfl _ ?_)
    rcases o' with r0|sx
    ·dsimp only at hF
     cases hF
     intro st h
     simpa using h
    ·dsimp only at hF
     cases hF
     repeat first|refine cg ?_|simp -dsimp
  ·have z6:(5<(s.size:Int)):=auz
   cases hF
   repeat first|refine cg ?_|simp -dsimp[h1,q2,z3,h4,q5,z6]
 ·have z3:((s.size:Int)=0):=auz
  cases hF
  repeat first|refine cg ?_|simp -dsimp[h1,q2,z3]
theorem C.f15 (n:Int)(t:Ty)(r:Bool)(hF:F.f15 n t=some r):PureCall zQ B 118 [li n,.agg [li t.data,li t.index]] (.lit (.bool r)):=by
 unfold F.f15 at hF
 refine zJ func118 rfl ntmps118 ?_
 repeat first|refine cg ?_|simp -dsimp
 revert hF;refine aS ?_ ?_<;>intro h1 q2 hF
 ·cases hF
  repeat first|refine cg ?_|simp -dsimp[h1]
 ·repeat first|refine cg ?_|simp -dsimp[q2]
  revert hF;refine aS ?_ ?_<;>intro h3 q4 hF
  ·repeat first|refine cg ?_|simp -dsimp[h3]
   revert hF;refine aS ?_ ?_<;>intro h5 q6 hF
   ·repeat first|refine cg ?_|simp -dsimp[h5]
    revert hF;refine aS ?_ ?_<;>intro h7 q8 hF
    ·cases hF
     repeat first|refine cg ?_|simp -dsimp[h7]
    ·cases hF
     repeat first|refine cg ?_|simp -dsimp[q8]
   ·cases hF
    repeat first|refine cg ?_|simp -dsimp[q6]
  ·cases hF
   repeat first|refine cg ?_|simp -dsimp[q4]
theorem CC.f16 (n:Int)(c':Ctor):(∀(i:Nat) (o:Lo Bool Unit),F.f16 n c' i=some o->∀(c:Code),Zb [1,1,0,1,0,0] (ZK Tryz.f116)=some c->∀(Q:Exit->ASt->Prop),o.post (fun r=>∀st,ZA2 zQ Tryz.f116 (fun r' _=>r'.le (.lit (.bool r))) .ret st->Q .ret st) (fun s=>Q (.exit 0) ⟨[],[]⟩)->ALoopU zQ B 0 41 (hold c .mk) ⟨[(0,li n),(3,.ptr 0 0),(5,li (i:Int))],[.cells [.lit (.string c'.name),am zX c'.args,li c'.index]]⟩ (hold Q .mk)):=by
 refine F.f16.partial_correctness n c'
  _
  ?_
 ·intro _f_f16 ih_f16 i o hF
  refine ZJ rfl fun Q hq hk hs=> ?_
  have d0:=hs 0 _ rfl
  simp -dsimp[zS]at d0
  clear hk hs
  refine eN ?_
  repeat first|refine cg ?_|simp -dsimp
  revert hF;refine aS ?_ ?_<;>intro h11 q12 hF
  ·have z13:((i:Int)<(c'.args.length:Int)):=auz
   obtain⟨x,e14,hF⟩:=ob hF
   have le14:=ZD e14
   repeat first|refine cg ?_|simp -dsimp[h11,z13,↓e14]
   obtain⟨v15,e16,hF⟩:=ob hF
   refine((C.f15 B hB1 hB2 n x v15 e16)).goI ?_
   repeat first|refine cg ?_|simp -dsimp
   revert hF;refine aN (fun h17 q18 hF=> ?_) (fun h17 q18 hF=> ?_)
   ·cases hF
    repeat first|refine cg ?_|simp -dsimp[h17,q18]
    refine lG _ (gR _) (hq _ ?_)
    repeat first|refine cg ?_|simp -dsimp
   ·have w19:i64.wrap ((i:Int)+1)=(i:Int)+1:=ZF (by omega) (by omega)
    repeat first|refine cg ?_|simp -dsimp[w19]
    refine zT ((ih_f16 (i+1) o hF) _ rfl _ hq)
  ·have z13:¬((i:Int)<(c'.args.length:Int)):=auz
   cases hF
   repeat first|refine cg ?_|simp -dsimp[h11,q12,z13]
   refine zU hq
theorem C.f17 (n:Int)(c':Ctor)(r:Bool)(hF:F.f17 n c'=some r):PureCall zQ B 116 [li n,.agg [.lit (.string c'.name),am zX c'.args,li c'.index]] (.lit (.bool r)):=by
 unfold F.f17 at hF
 refine zJ func116 rfl ntmps116 ?_
 repeat first|refine cg ?_|simp -dsimp
 obtain⟨v,e1,hF⟩:=ob hF
 refine((C.f14 B hB1 hB2 c'.name v e1)).goI ?_
 repeat first|refine cg ?_|simp -dsimp
 revert hF;refine aS (fun h2 q3 hF=> ?_) (fun h2 q3 hF=> ?_)
 ·repeat first|refine cg ?_|simp -dsimp[h2]
  revert hF;refine aN ?_ ?_<;>intro h4 q5 hF
  ·have z6:¬(3<(c'.args.length:Int)):=auz
   repeat first|refine cg ?_|simp -dsimp[h2,h4,q5,z6]
   revert hF;refine aN ?_ ?_<;>intro h7 q8 hF
   ·repeat first|refine cg ?_|simp -dsimp[h2,h4,q5,z6,h7,q8]
    revert hF;refine aS ?_ ?_<;>intro h9 q10 hF
    ·cases hF
     repeat first|refine cg ?_|simp -dsimp[h2,h4,q5,z6,h7,q8,h9]
    ·repeat first|refine cg ?_|simp -dsimp[h2,h4,q5,z6,h7,q8,h9,q10]
     obtain⟨o',ho20,hF⟩:=ob hF
     refine zV (((CC.f16 B hB1 hB2 n c') 0 o' ho20) _ rfl _ ?_)
     rcases o' with r0|sx
     ·dsimp only at hF
      cases hF
      intro st h
      simpa using h
     ·dsimp only at hF
      cases hF
      repeat first|refine cg ?_|simp -dsimp
   ·cases hF
    repeat first|refine cg ?_|simp -dsimp[h2,h4,q5,z6,h7,q8]
  ·have z6:(3<(c'.args.length:Int)):=auz
   cases hF
   repeat first|refine cg ?_|simp -dsimp[h2,h4,q5,z6]
 ·cases hF
  repeat first|refine cg ?_|simp -dsimp[h2,q3]
theorem CC.f18 (w:List yC)(d:Int)(k:Int)(i:Nat):(∀(j:Nat) (o:Lo Bool Unit),F.f18 w d k i j=some o->∀(c:Code),Zb [1,0,1,0,0,1,0,0,1,1,0,0] (ZK Tryz.f117)=some c->∀(Q:Exit->ASt->Prop),o.post (fun r=>∀st,ZA2 zQ Tryz.f117 (fun r' _=>r'.le (.lit (.bool r))) .ret st->Q .ret st) (fun s=>Q (.exit 2) ⟨[(0,am yD w),(1,li d),(2,li k),(7,li (i:Int))],[]⟩)->ALoopU zQ B 0 79 (hold c .mk) ⟨[(0,am yD w),(1,li d),(2,li k),(7,li (i:Int)),(8,li (j:Int))],[]⟩ (hold Q .mk)):=by
 refine F.f18.partial_correctness w d k i
  _
  ?_
 ·intro _f_f18 ih_f18 j o hF
  refine ZJ rfl fun Q hq hk hs=> ?_
  have b0:=hk 0
  simp -dsimp at b0
  clear hk hs
  refine eN ?_
  have hF:=ob hF;obtain⟨x10,e11,hF⟩:=hF
  have le11:=ZD e11
  repeat first|refine cg ?_|simp -dsimp[↓e11]
  revert hF;refine aS ?_ ?_<;>intro h12 q13 hF
  ·have z14:((j:Int)<(x10.ctors.length:Int)):=auz
   repeat first|refine cg ?_|simp -dsimp[h12,z14]
   revert hF;refine aN ?_ ?_<;>intro h15 q16 hF
   ·repeat first|refine cg ?_|simp -dsimp[↓e11,h12,z14,h15,q16]
    revert hF;refine aS ?_ ?_<;>intro h17 q18 hF
    ·repeat first|refine cg ?_|simp -dsimp[↓e11,h12,z14,h15,q16,h17]
     refine zM follows ?_
     have hF:=ob hF;obtain⟨x19,e20a,hF⟩:=hF
     have e20a:=ZO e20a;obtain⟨ne20,e20⟩:=e20a
     have le20:=ZD e20
     repeat first|refine cg ?_|simp -dsimp[↓e20]
     revert hF;refine aS ?_ ?_<;>intro h21 q22 hF
     ·have hF:=ob hF;obtain⟨x23,e24,hF⟩:=hF
      have le24:=ZD e24
      have hF:=ob hF;obtain⟨x25,e26a,hF⟩:=hF
      have e26a:=ZO e26a;obtain⟨ne26,e26⟩:=e26a
      have le26:=ZD e26
      repeat first|refine cg ?_|simp -dsimp[↓e11,h12,z14,h15,q16,h17,↓e20,h21,↓e24,↓e26]
      revert hF;refine aS ?_ ?_<;>intro h27 q28 hF
      ·cases hF
       repeat first|refine cg ?_|simp -dsimp[h27]
       refine lG _ (gR _) (hq _ ?_)
       repeat first|refine cg ?_|simp -dsimp
      ·have hF:=oc hF;obtain⟨c29,hF⟩:=hF
       have w30:i64.wrap ((j:Int)+1)=(j:Int)+1:=ZF (by omega) (by omega)
       repeat first|refine cg ?_|simp -dsimp[q28,w30]
       refine zT ((ih_f18 (j+1) o hF) _ rfl _ hq)
     ·have hF:=oc hF;obtain⟨c31,hF⟩:=hF
      have w32:i64.wrap ((j:Int)+1)=(j:Int)+1:=ZF (by omega) (by omega)
      repeat first|refine cg ?_|simp -dsimp[h21,q22,w32]
      refine zT ((ih_f18 (j+1) o hF) _ rfl _ hq)
    ·cases hF
     repeat first|refine cg ?_|simp -dsimp[↓e11,h12,z14,h15,q16,h17,q18]
     refine zU hq
   ·repeat first|refine cg ?_|simp -dsimp[↓e11,h12,z14,h15,q16]
    refine zM follows ?_
    have hF:=ob hF;obtain⟨x33,e34a,hF⟩:=hF
    have e34a:=ZO e34a;obtain⟨ne34,e34⟩:=e34a
    have le34:=ZD e34
    repeat first|refine cg ?_|simp -dsimp[↓e34]
    revert hF;refine aS ?_ ?_<;>intro h35 q36 hF
    ·have hF:=ob hF;obtain⟨x37,e38,hF⟩:=hF
     have le38:=ZD e38
     have hF:=ob hF;obtain⟨x39,e40a,hF⟩:=hF
     have e40a:=ZO e40a;obtain⟨ne40,e40⟩:=e40a
     have le40:=ZD e40
     repeat first|refine cg ?_|simp -dsimp[↓e11,h12,z14,h15,q16,↓e34,h35,↓e38,↓e40]
     revert hF;refine aS ?_ ?_<;>intro h41 q42 hF
     ·cases hF
      repeat first|refine cg ?_|simp -dsimp[h41]
      refine lG _ (gR _) (hq _ ?_)
      repeat first|refine cg ?_|simp -dsimp
     ·have hF:=oc hF;obtain⟨c43,hF⟩:=hF
      have w44:i64.wrap ((j:Int)+1)=(j:Int)+1:=ZF (by omega) (by omega)
      repeat first|refine cg ?_|simp -dsimp[q42,w44]
      refine zT ((ih_f18 (j+1) o hF) _ rfl _ hq)
    ·have hF:=oc hF;obtain⟨c45,hF⟩:=hF
     have w46:i64.wrap ((j:Int)+1)=(j:Int)+1:=ZF (by omega) (by omega)
     repeat first|refine cg ?_|simp -dsimp[h35,q36,w46]
     refine zT ((ih_f18 (j+1) o hF) _ rfl _ hq)
  ·have z14:¬((j:Int)<(x10.ctors.length:Int)):=auz
   cases hF
   repeat first|refine cg ?_|simp -dsimp[h12,q13,z14]
   refine zU hq
theorem CC.f19 (w:List yC)(d:Int)(k:Int)(i:Nat):(∀(j50:Nat) (o:Lo Bool Unit),F.f19 w d k i j50=some o->∀(c:Code),Zb [1,0,1,0,0,1,0,0,1,1,0,0] (ZK Tryz.f117)=some c->∀(Q:Exit->ASt->Prop),o.post (fun r=>∀st,ZA2 zQ Tryz.f117 (fun r' _=>r'.le (.lit (.bool r))) .ret st->Q .ret st) (fun s=>Q (.exit 2) ⟨[(0,am yD w),(1,li d),(2,li k),(7,li (i:Int))],[]⟩)->ALoopU zQ B 0 79 (hold c .mk) ⟨[(0,am yD w),(1,li d),(2,li k),(7,li (i:Int)),(8,li (j50:Int))],[]⟩ (hold Q .mk)):=by
 refine F.f19.partial_correctness w d k i
  _
  ?_
 ·intro _f_f19 ih_f19 j50 o hF
  refine ZJ rfl fun Q hq hk hs=> ?_
  have b0:=hk 0
  simp -dsimp at b0
  clear hk hs
  refine eN ?_
  have hF:=ob hF;obtain⟨x51,e52,hF⟩:=hF
  have le52:=ZD e52
  repeat first|refine cg ?_|simp -dsimp[↓e52]
  revert hF;refine aS ?_ ?_<;>intro h53 q54 hF
  ·have z55:((j50:Int)<(x51.ctors.length:Int)):=auz
   repeat first|refine cg ?_|simp -dsimp[h53,z55]
   revert hF;refine aN ?_ ?_<;>intro h56 q57 hF
   ·repeat first|refine cg ?_|simp -dsimp[↓e52,h53,z55,h56,q57]
    revert hF;refine aS ?_ ?_<;>intro h58 q59 hF
    ·repeat first|refine cg ?_|simp -dsimp[↓e52,h53,z55,h56,q57,h58]
     refine zM follows ?_
     have hF:=ob hF;obtain⟨x60,e61a,hF⟩:=hF
     have e61a:=ZO e61a;obtain⟨ne61,e61⟩:=e61a
     have le61:=ZD e61
     repeat first|refine cg ?_|simp -dsimp[↓e61]
     revert hF;refine aS ?_ ?_<;>intro h62 q63 hF
     ·have hF:=ob hF;obtain⟨x64,e65,hF⟩:=hF
      have le65:=ZD e65
      have hF:=ob hF;obtain⟨x66,e67a,hF⟩:=hF
      have e67a:=ZO e67a;obtain⟨ne67,e67⟩:=e67a
      have le67:=ZD e67
      repeat first|refine cg ?_|simp -dsimp[↓e52,h53,z55,h56,q57,h58,↓e61,h62,↓e65,↓e67]
      revert hF;refine aS ?_ ?_<;>intro h68 q69 hF
      ·cases hF
       repeat first|refine cg ?_|simp -dsimp[h68]
       refine lG _ (gR _) (hq _ ?_)
       repeat first|refine cg ?_|simp -dsimp
      ·have hF:=oc hF;obtain⟨c70,hF⟩:=hF
       have w71:i64.wrap ((j50:Int)+1)=(j50:Int)+1:=ZF (by omega) (by omega)
       repeat first|refine cg ?_|simp -dsimp[q69,w71]
       refine zT ((ih_f19 (j50+1) o hF) _ rfl _ hq)
     ·have hF:=oc hF;obtain⟨c72,hF⟩:=hF
      have w73:i64.wrap ((j50:Int)+1)=(j50:Int)+1:=ZF (by omega) (by omega)
      repeat first|refine cg ?_|simp -dsimp[h62,q63,w73]
      refine zT ((ih_f19 (j50+1) o hF) _ rfl _ hq)
    ·cases hF
     repeat first|refine cg ?_|simp -dsimp[↓e52,h53,z55,h56,q57,h58,q59]
     refine zU hq
   ·repeat first|refine cg ?_|simp -dsimp[↓e52,h53,z55,h56,q57]
    refine zM follows ?_
    have hF:=ob hF;obtain⟨x74,e75a,hF⟩:=hF
    have e75a:=ZO e75a;obtain⟨ne75,e75⟩:=e75a
    have le75:=ZD e75
    repeat first|refine cg ?_|simp -dsimp[↓e75]
    revert hF;refine aS ?_ ?_<;>intro h76 q77 hF
    ·have hF:=ob hF;obtain⟨x78,e79,hF⟩:=hF
     have le79:=ZD e79
     have hF:=ob hF;obtain⟨x80,e81a,hF⟩:=hF
     have e81a:=ZO e81a;obtain⟨ne81,e81⟩:=e81a
     have le81:=ZD e81
     repeat first|refine cg ?_|simp -dsimp[↓e52,h53,z55,h56,q57,↓e75,h76,↓e79,↓e81]
     revert hF;refine aS ?_ ?_<;>intro h82 q83 hF
     ·cases hF
      repeat first|refine cg ?_|simp -dsimp[h82]
      refine lG _ (gR _) (hq _ ?_)
      repeat first|refine cg ?_|simp -dsimp
     ·have hF:=oc hF;obtain⟨c84,hF⟩:=hF
      have w85:i64.wrap ((j50:Int)+1)=(j50:Int)+1:=ZF (by omega) (by omega)
      repeat first|refine cg ?_|simp -dsimp[q83,w85]
      refine zT ((ih_f19 (j50+1) o hF) _ rfl _ hq)
    ·have hF:=oc hF;obtain⟨c86,hF⟩:=hF
     have w87:i64.wrap ((j50:Int)+1)=(j50:Int)+1:=ZF (by omega) (by omega)
     repeat first|refine cg ?_|simp -dsimp[h76,q77,w87]
     refine zT ((ih_f19 (j50+1) o hF) _ rfl _ hq)
  ·have z55:¬((j50:Int)<(x51.ctors.length:Int)):=auz
   cases hF
   repeat first|refine cg ?_|simp -dsimp[h53,q54,z55]
   refine zU hq
theorem CC.f20 (w:List yC)(d:Int)(k:Int):(∀(i:Nat) (o:Lo Bool Unit),F.f20 w d k i=some o->∀(c:Code),Zb [1,0,1,0,0] (ZK Tryz.f117)=some c->∀(Q:Exit->ASt->Prop),o.post (fun r=>∀st,ZA2 zQ Tryz.f117 (fun r' _=>r'.le (.lit (.bool r))) .ret st->Q .ret st) (fun s=>Q (.exit 0) ⟨[],[]⟩)->ALoopU zQ B 0 79 (hold c .mk) ⟨[(0,am yD w),(1,li d),(2,li k),(7,li (i:Int))],[]⟩ (hold Q .mk)):=by
 refine F.f20.partial_correctness w d k
  _
  ?_
 ·intro _f_f20 ih_f20 i o hF
  refine ZJ rfl fun Q hq hk hs=> ?_
  have b0:=hk 0
  simp -dsimp at b0
  clear hk hs
  refine eN ?_
  repeat first|refine cg ?_|simp -dsimp
  revert hF;refine aS ?_ ?_<;>intro h1 q2 hF
  ·repeat first|refine cg ?_|simp -dsimp[h1]
   refine zM follows ?_
   repeat first|refine cg ?_|simp -dsimp
   revert hF;refine aS ?_ ?_<;>intro h3 q4 hF
   ·obtain⟨x,e5,hF⟩:=ob hF
    have le5:=ZD e5
    obtain⟨x6,e7a,hF⟩:=ob hF
    have e7a:=ZO e7a;obtain⟨ne7,e7⟩:=e7a
    have le7:=ZD e7
    repeat first|refine cg ?_|simp -dsimp[h3,↓e5,↓e7]
    revert hF;refine aS ?_ ?_<;>intro h8 q9 hF
    ·cases hF
     repeat first|refine cg ?_|simp -dsimp[h8]
     refine lG _ (gR _) (hq _ ?_)
     repeat first|refine cg ?_|simp -dsimp
    ·repeat first|refine cg ?_|simp -dsimp[q9]
     obtain⟨o',ho47,hF⟩:=ob hF
     refine zV (((CC.f18 B hB1 hB2 w d k i) 0 o' ho47) _ rfl _ ?_)
     rcases o' with r0|sx
     ·dsimp only at hF
      cases hF
      intro st h
      simp -dsimp
      refine lG st (gR _) (hq st h)
     ·dsimp only at hF
      obtain⟨c48,hF⟩:=oc hF
      have w49:i64.wrap ((i:Int)+1)=(i:Int)+1:=ZF (by omega) (by omega)
      repeat first|refine cg ?_|simp -dsimp[w49]
      refine zT ((ih_f20 (i+1) o hF) _ rfl _ hq)
   ·repeat first|refine cg ?_|simp -dsimp[h3,q4]
    obtain⟨o'89,ho88,hF⟩:=ob hF
    refine zV (((CC.f19 B hB1 hB2 w d k i) 0 o'89 ho88) _ rfl _ ?_)
    rcases o'89 with r093|sx90
    ·dsimp only at hF
     cases hF
     intro st h
     simp -dsimp
     refine lG st (gR _) (hq st h)
    ·dsimp only at hF
     obtain⟨c91,hF⟩:=oc hF
     have w92:i64.wrap ((i:Int)+1)=(i:Int)+1:=ZF (by omega) (by omega)
     repeat first|refine cg ?_|simp -dsimp[w92]
     refine zT ((ih_f20 (i+1) o hF) _ rfl _ hq)
  ·cases hF
   repeat first|refine cg ?_|simp -dsimp[q2]
   refine zU hq
theorem C.f21 (w:List yC)(d:Int)(k:Int)(r:Bool)(hF:F.f21 w d k=some r):PureCall zQ B 117 [am yD w,li d,li k] (.lit (.bool r)):=by
 unfold F.f21 at hF
 refine zJ func117 rfl ntmps117 ?_
 repeat first|refine cg ?_|simp -dsimp
 obtain⟨o'95,ho94,hF⟩:=ob hF
 refine zV (((CC.f20 B hB1 hB2 w d k) 0 o'95 ho94) _ rfl _ ?_)
 rcases o'95 with r097|sx96
 ·dsimp only at hF
  cases hF
  intro st h
  simpa using h
 ·dsimp only at hF
  cases hF
  repeat first|refine cg ?_|simp -dsimp
theorem CC.f22 (w:List yC)(d:Nat):(∀(k:Nat) (o:Lo Bool Unit),F.f22 w d k=some o->∀(c:Code),Zb [1,1,0,1,0,0,1,0,0,1,1,0,0] (ZK Tryz.f91)=some c->∀(Q:Exit->ASt->Prop),o.post (fun r=>∀st,ZA2 zQ Tryz.f91 (fun r' _=>r'.le (.lit (.bool r))) .ret st->Q .ret st) (fun s=>Q (.exit 2) ⟨[(0,am yD w),(3,li (d:Int))],[]⟩)->ALoopU zQ B 0 67 (hold c .mk) ⟨[(0,am yD w),(3,li (d:Int)),(4,li (k:Int))],[]⟩ (hold Q .mk)):=by
 refine F.f22.partial_correctness w d
  _
  ?_
 ·intro _f_f22 ih_f22 k o hF
  refine ZJ rfl fun Q hq hk hs=> ?_
  have b0:=hk 0
  simp -dsimp at b0
  clear hk hs
  refine eN ?_
  have hF:=ob hF;obtain⟨x17,e18,hF⟩:=hF
  have le18:=ZD e18
  repeat first|refine cg ?_|simp -dsimp[↓e18]
  revert hF;refine aS ?_ ?_<;>intro h19 q20 hF
  ·have z21:((k:Int)<(x17.ctors.length:Int)):=auz
   have hF:=ob hF;obtain⟨x22,e23,hF⟩:=hF
   have le23:=ZD e23
   repeat first|refine cg ?_|simp -dsimp[↓e18,h19,z21,↓e23]
   have hF:=ob hF;obtain⟨v24,e25,hF⟩:=hF
   refine((C.f17 B hB1 hB2 (w.length:Int) x22 v24 e25)).goI ?_
   repeat first|refine cg ?_|simp -dsimp[↓e18,h19,z21,↓e23]
   revert hF;refine aS (fun h26 q27 hF=> ?_) (fun h26 q27 hF=> ?_)
   ·repeat first|refine cg ?_|simp -dsimp[↓e18,h19,z21,↓e23,h26]
    have hF:=ob hF;obtain⟨v28,e29,hF⟩:=hF
    refine((C.f21 B hB1 hB2 w (d:Int) (k:Int) v28 e29)).goI ?_
    repeat first|refine cg ?_|simp -dsimp[↓e18,h19,z21,↓e23,h26]
    revert hF;refine aS (fun h30 q31 hF=> ?_) (fun h30 q31 hF=> ?_)
    ·cases hF
     repeat first|refine cg ?_|simp -dsimp[↓e18,h19,z21,↓e23,h26,h30]
     refine lG _ (gR _) (hq _ ?_)
     repeat first|refine cg ?_|simp -dsimp[↓e18,h19,z21,↓e23,h26,h30]
    ·have hF:=oc hF;obtain⟨c32,hF⟩:=hF
     have w33:i64.wrap ((k:Int)+1)=(k:Int)+1:=ZF (by omega) (by omega)
     repeat first|refine cg ?_|simp -dsimp[↓e18,h19,z21,↓e23,h26,h30,q31,w33]
     refine zT ((ih_f22 (k+1) o hF) _ rfl _ hq)
   ·cases hF
    repeat first|refine cg ?_|simp -dsimp[↓e18,h19,z21,↓e23,h26,q27]
    refine lG _ (gR _) (hq _ ?_)
    repeat first|refine cg ?_|simp -dsimp[↓e18,h19,z21,↓e23,h26,q27]
  ·have z21:¬((k:Int)<(x17.ctors.length:Int)):=auz
   cases hF
   repeat first|refine cg ?_|simp -dsimp[↓e18,h19,q20,z21]
   refine zU hq
theorem CC.f23 (w:List yC):(∀(d:Nat) (o:Lo Bool Unit),F.f23 w d=some o->∀(c:Code),Zb [1,1,0,1,0,0] (ZK Tryz.f91)=some c->∀(Q:Exit->ASt->Prop),o.post (fun r=>∀st,ZA2 zQ Tryz.f91 (fun r' _=>r'.le (.lit (.bool r))) .ret st->Q .ret st) (fun s=>Q (.exit 0) ⟨[],[]⟩)->ALoopU zQ B 0 67 (hold c .mk) ⟨[(0,am yD w),(3,li (d:Int))],[]⟩ (hold Q .mk)):=by
 refine F.f23.partial_correctness w
  _
  ?_
 ·intro _f_f23 ih_f23 d o hF
  refine ZJ rfl fun Q hq hk hs=> ?_
  have b0:=hk 0
  simp -dsimp at b0
  clear hk hs
  refine eN ?_
  repeat first|refine cg ?_|simp -dsimp
  revert hF;refine aS ?_ ?_<;>intro h4 q5 hF
  ·have z6:((d:Int)<(w.length:Int)):=auz
   obtain⟨x,e7,hF⟩:=ob hF
   have le7:=ZD e7
   repeat first|refine cg ?_|simp -dsimp[h4,z6,↓e7]
   obtain⟨v,e8,hF⟩:=ob hF
   refine((C.f12 B hB1 hB2 x.name v e8)).goI ?_
   repeat first|refine cg ?_|simp -dsimp[h4,z6,↓e7]
   revert hF;refine aS (fun h9 q10 hF=> ?_) (fun h9 q10 hF=> ?_)
   ·repeat first|refine cg ?_|simp -dsimp[h4,z6,↓e7,h9]
    revert hF;refine aN ?_ ?_<;>intro h11 q12 hF
    ·have z13:¬((x.ctors.length:Int)=0):=auz
     repeat first|refine cg ?_|simp -dsimp[h4,z6,↓e7,h9,h11,q12,z13]
     revert hF;refine aS ?_ ?_<;>intro h14 q15 hF
     ·have z16:(4<(x.ctors.length:Int)):=auz
      cases hF
      repeat first|refine cg ?_|simp -dsimp[h4,z6,↓e7,h9,h11,q12,z13,h14,z16]
      refine lG _ (gR _) (hq _ ?_)
      repeat first|refine cg ?_|simp -dsimp[h4,z6,↓e7,h9,h11,q12,z13,h14,z16]
     ·have z16:¬(4<(x.ctors.length:Int)):=auz
      repeat first|refine cg ?_|simp -dsimp[h4,z6,↓e7,h9,h11,q12,z13,h14,q15,z16]
      obtain⟨o',ho34,hF⟩:=ob hF
      refine zV (((CC.f22 B hB1 hB2 w d) 0 o' ho34) _ rfl _ ?_)
      rcases o' with r0|sx
      ·dsimp only at hF
       cases hF
       intro st h
       simp -dsimp
       refine lG st (gR _) (hq st h)
      ·dsimp only at hF
       obtain⟨c35,hF⟩:=oc hF
       have w36:i64.wrap ((d:Int)+1)=(d:Int)+1:=ZF (by omega) (by omega)
       repeat first|refine cg ?_|simp -dsimp[w36]
       refine zT ((ih_f23 (d+1) o hF) _ rfl _ hq)
    ·have z13:((x.ctors.length:Int)=0):=auz
     cases hF
     repeat first|refine cg ?_|simp -dsimp[h4,z6,↓e7,h9,h11,q12,z13]
     refine lG _ (gR _) (hq _ ?_)
     repeat first|refine cg ?_|simp -dsimp[h4,z6,↓e7,h9,h11,q12,z13]
   ·cases hF
    repeat first|refine cg ?_|simp -dsimp[h4,z6,↓e7,h9,q10]
    refine lG _ (gR _) (hq _ ?_)
    repeat first|refine cg ?_|simp -dsimp[h4,z6,↓e7,h9,q10]
  ·have z6:¬((d:Int)<(w.length:Int)):=auz
   cases hF
   repeat first|refine cg ?_|simp -dsimp[h4,q5,z6]
   refine zU hq
theorem C.f24 (w:List yC)(r:Bool)(hF:F.f24 w=some r):PureCall zQ B 91 [am yD w] (.lit (.bool r)):=by
 unfold F.f24 at hF
 refine zJ func91 rfl ntmps91 ?_
 repeat first|refine cg ?_|simp -dsimp
 revert hF;refine aS ?_ ?_<;>intro h1 q2 hF
 ·have z3:(4<(w.length:Int)):=auz
  cases hF
  repeat first|refine cg ?_|simp -dsimp[h1,z3]
 ·have z3:¬(4<(w.length:Int)):=auz
  repeat first|refine cg ?_|simp -dsimp[h1,q2,z3]
  obtain⟨o'38,ho37,hF⟩:=ob hF
  refine zV (((CC.f23 B hB1 hB2 w) 0 o'38 ho37) _ rfl _ ?_)
  rcases o'38 with r040|sx39
  ·dsimp only at hF
   cases hF
   intro st h
   simpa using h
  ·dsimp only at hF
   cases hF
   repeat first|refine cg ?_|simp -dsimp
theorem CC.f25  :(∀(n7:Int) (out:ByteArray) (o:Int×ByteArray),F.f25 n7 out=some o->∀(c:Code),Zb [1,1,1,1,0,0,0] (ZK Tryz.f24)=some c->∀(Q:Exit->ASt->Prop),(Q (.exit 0) ⟨[(0,li o.1),(3,.lit (.string o.2))],[]⟩)->ALoopU zQ B 0 31 (hold c .mk) ⟨[(0,li n7),(3,.lit (.string out))],[]⟩ (hold Q .mk)):=by
 refine F.f25.partial_correctness 
  _
  ?_
 ·intro _f_f25 ih_f25 n7 out o hF
  refine ZJ rfl fun Q hq hk hs=> ?_
  clear hk hs
  refine eN ?_
  repeat first|refine cg ?_|simp -dsimp
  revert hF;refine aS ?_ ?_<;>intro h8 q9 hF
  ·obtain⟨c10,hF⟩:=oc hF
   repeat first|refine cg ?_|simp -dsimp[h8]
   refine zT ((ih_f25 (i64.wrap (n7.tdiv 10)) ((ZDE [IntKind.u8.wrap (i64.wrap (48+n7.tmod 10))])++out) o hF) _ rfl _ hq)
  ·cases hF
   repeat first|refine cg ?_|simp -dsimp[q9]
   refine zU hq
theorem CC.f26  :(∀(n:Int) (r:ByteArray),F.f26 n=some r->PureCall zQ B 24 [li n] (.lit (.string r))):=by
 refine F.f26.partial_correctness 
  _
  ?_
 ·intro _f_f26 ih_f26 n r hF
  refine zJ func24 rfl ntmps24 ?_
  repeat first|refine cg ?_|simp -dsimp
  revert hF;refine aS ?_ ?_<;>intro h1 q2 hF
  ·cases hF
   repeat first|refine cg ?_|simp -dsimp[h1]
  ·repeat first|refine cg ?_|simp -dsimp[q2]
   revert hF;refine aS ?_ ?_<;>intro h3 q4 hF
   ·repeat first|refine cg ?_|simp -dsimp[h3]
    obtain⟨v,e5,hF⟩:=ob hF
    refine((ih_f26 (i64.wrap (0-n)) v e5)).goI ?_
    obtain⟨c6,hF⟩:=oc hF
    cases hF
    repeat first|refine cg ?_|simp -dsimp
   ·repeat first|refine cg ?_|simp -dsimp[q4]
    obtain⟨o',ho11,hF⟩:=ob hF
    refine zV (((CC.f25 B hB1 hB2) n zE o' ho11) _ rfl _ ?_)
    obtain⟨c12,hF⟩:=oc hF
    cases hF
    repeat first|refine cg ?_|simp -dsimp
theorem C.f27 (n:Int)(r:ByteArray)(hF:F.f27 n=some r):PureCall zQ B 193 [li n] (.lit (.string r)):=by
 unfold F.f27 at hF
 refine zJ func193 rfl ntmps193 ?_
 repeat first|refine cg ?_|simp -dsimp
 revert hF;refine aS ?_ ?_<;>intro h1 q2 hF
 ·cases hF
  repeat first|refine cg ?_|simp -dsimp[eq_true h1]
 ·repeat first|refine cg ?_|simp -dsimp[h1,q2]
  revert hF;refine aS ?_ ?_<;>intro h3 q4 hF
  ·cases hF
   repeat first|refine cg ?_|simp -dsimp[h3]
  ·repeat first|refine cg ?_|simp -dsimp[q4]
   obtain⟨v,e5,hF⟩:=ob hF
   refine(((CC.f26 B hB1 hB2) n v e5)).goI ?_
   cases hF
   repeat first|refine cg ?_|simp -dsimp
theorem C.f28 (w:List yC)(t:Ty)(r:ByteArray)(hF:F.f28 w t=some r):PureCall zQ B 192 [am yD w,.agg [li t.data,li t.index]] (.lit (.string r)):=by
 unfold F.f28 at hF
 refine zJ func192 rfl ntmps192 ?_
 repeat first|refine cg ?_|simp -dsimp
 revert hF;refine aS ?_ ?_<;>intro h1 q2 hF
 ·cases hF
  repeat first|refine cg ?_|simp -dsimp[h1]
 ·repeat first|refine cg ?_|simp -dsimp[q2]
  refine zM follows ?_
  obtain⟨x,e3a,hF⟩:=ob hF
  have e3a:=ZO e3a;obtain⟨ne3,e3⟩:=e3a
  have le3:=ZD e3
  repeat first|refine cg ?_|simp -dsimp[↓e3]
  obtain⟨v,e4,hF⟩:=ob hF
  refine((C.f27 B hB1 hB2 t.index v e4)).pgoW (by simp_all) (by simp) ?_
  obtain⟨c5,hF⟩:=oc hF
  cases hF
  repeat first|refine cg ?_|simp -dsimp
theorem CC.f29 (w:List yC)(c':Ctor):(∀(out:ByteArray) (i:Nat) (o:ByteArray),F.f29 w c' out i=some o->∀(c:Code),Zb [1,1,0,1,0,0] (ZK Tryz.f190)=some c->∀(Q:Exit->ASt->Prop),(Q (.exit 0) ⟨[(3,.ptr 0 0),(5,.lit (.string o))],[.cells [.lit (.string c'.name),am zX c'.args,li c'.index]]⟩)->ALoopU zQ B 0 47 (hold c .mk) ⟨[(0,am yD w),(3,.ptr 0 0),(5,.lit (.string out)),(6,li (i:Int))],[.cells [.lit (.string c'.name),am zX c'.args,li c'.index]]⟩ (hold Q .mk)):=by
 refine F.f29.partial_correctness w c'
  _
  ?_
 ·intro _f_f29 ih_f29 out i o hF
  refine ZJ rfl fun Q hq hk hs=> ?_
  have b0:=hk 0
  simp -dsimp at b0
  have d0:=hs 0 _ rfl
  simp -dsimp[zS]at d0
  clear hk hs
  refine eN ?_
  repeat first|refine cg ?_|simp -dsimp
  revert hF;refine aS ?_ ?_<;>intro h1 q2 hF
  ·have z3:((i:Int)<(c'.args.length:Int)):=auz
   repeat first|refine cg ?_|simp -dsimp[h1,z3]
   revert hF;refine aS ?_ ?_<;>intro h4 q5 hF
   ·have z6:((i:Int)=0):=auz
    have hF:=oc hF;obtain⟨c7,hF⟩:=hF
    have hF:=ob hF;obtain⟨x,e8,hF⟩:=hF
    have le8:=ZD e8
    repeat first|refine cg ?_|simp -dsimp[eq_true h4,eq_true z6,↓e8]
    have hF:=ob hF;obtain⟨v,e9,hF⟩:=hF
    refine((C.f28 B hB1 hB2 w x v e9)).goI ?_
    have hF:=oc hF;obtain⟨c10,hF⟩:=hF
    have dc10:=c10;simp only[zF]at dc10
    have w11:i64.wrap ((i:Int)+1)=(i:Int)+1:=ZF (by omega) (by omega)
    repeat first|refine cg ?_|simp -dsimp[w11]
    refine zT ((ih_f29 ((out++(⟨#[40]⟩:ByteArray))++v) (i+1) o hF) _ rfl _ hq)
   ·have z6:¬((i:Int)=0):=auz
    have hF:=oc hF;obtain⟨c12,hF⟩:=hF
    have hF:=ob hF;obtain⟨x13,e14,hF⟩:=hF
    have le14:=ZD e14
    repeat first|refine cg ?_|simp -dsimp[h4,q5,z6,↓e14]
    have hF:=ob hF;obtain⟨v15,e16,hF⟩:=hF
    refine((C.f28 B hB1 hB2 w x13 v15 e16)).goI ?_
    have hF:=oc hF;obtain⟨c17,hF⟩:=hF
    have dc17:=c17;simp only[zF]at dc17
    have w18:i64.wrap ((i:Int)+1)=(i:Int)+1:=ZF (by omega) (by omega)
    repeat first|refine cg ?_|simp -dsimp[w18]
    refine zT ((ih_f29 ((out++(⟨#[44]⟩:ByteArray))++v15) (i+1) o hF) _ rfl _ hq)
  ·have z3:¬((i:Int)<(c'.args.length:Int)):=auz
   cases hF
   repeat first|refine cg ?_|simp -dsimp[h1,q2,z3]
   refine zU hq
theorem C.f30 (w:List yC)(c':Ctor)(r:ByteArray)(hF:F.f30 w c'=some r):PureCall zQ B 190 [am yD w,.agg [.lit (.string c'.name),am zX c'.args,li c'.index]] (.lit (.string r)):=by
 unfold F.f30 at hF
 refine zJ func190 rfl ntmps190 ?_
 repeat first|refine cg ?_|simp -dsimp
 obtain⟨o',ho19,hF⟩:=ob hF
 refine zV (((CC.f29 B hB1 hB2 w c') c'.name 0 o' ho19) _ rfl _ ?_)
 repeat first|refine cg ?_|simp -dsimp
 revert hF;refine aS ?_ ?_<;>intro h20 q21 hF
 ·have z22:(0<(c'.args.length:Int)):=auz
  obtain⟨c23,hF⟩:=oc hF
  repeat first|refine cg ?_|simp -dsimp[h20,z22]
  revert hF;refine aS ?_ ?_<;>intro h24 q25 hF
  ·obtain⟨c26,hF⟩:=oc hF
   have dc26:=c26;simp only[zF]at dc26
   repeat first|refine cg ?_|simp -dsimp[h24]
   obtain⟨v27,e28,hF⟩:=ob hF
   refine(((CC.f26 B hB1 hB2) c'.index v27 e28)).goI ?_
   obtain⟨c29,hF⟩:=oc hF
   have dc29:=c29;simp only[zF]at dc29
   cases hF
   repeat first|refine cg ?_|simp -dsimp
  ·cases hF
   repeat first|refine cg ?_|simp -dsimp[q25]
 ·have z22:¬(0<(c'.args.length:Int)):=auz
  repeat first|refine cg ?_|simp -dsimp[h20,q21,z22]
  revert hF;refine aS ?_ ?_<;>intro h30 q31 hF
  ·obtain⟨c32,hF⟩:=oc hF
   repeat first|refine cg ?_|simp -dsimp[h30]
   obtain⟨v33,e34,hF⟩:=ob hF
   refine(((CC.f26 B hB1 hB2) c'.index v33 e34)).goI ?_
   obtain⟨c35,hF⟩:=oc hF
   have dc35:=c35;simp only[zF]at dc35
   cases hF
   repeat first|refine cg ?_|simp -dsimp
  ·cases hF
   repeat first|refine cg ?_|simp -dsimp[q31]
theorem CC.f31 (w:List yC)(d:Nat):(∀(out11:ByteArray) (k:Nat) (o:ByteArray),F.f31 w d out11 k=some o->∀(c:Code),Zb [1,1,0,1,0,0,1,0,0,1,1,1,0,0] (ZK Tryz.f183)=some c->∀(Q:Exit->ASt->Prop),(Q (.exit 2) ⟨[(0,am yD w),(3,.lit (.string o)),(4,li (d:Int))],[]⟩)->ALoopU zQ B 0 51 (hold c .mk) ⟨[(0,am yD w),(3,.lit (.string out11)),(4,li (d:Int)),(5,li (k:Int))],[]⟩ (hold Q .mk)):=by
 refine F.f31.partial_correctness w d
  _
  ?_
 ·intro _f_f31 ih_f31 out11 k o hF
  refine ZJ rfl fun Q hq hk hs=> ?_
  have b0:=hk 0
  simp -dsimp at b0
  clear hk hs
  refine eN ?_
  have hF:=ob hF;obtain⟨x12,e13,hF⟩:=hF
  have le13:=ZD e13
  repeat first|refine cg ?_|simp -dsimp[↓e13]
  revert hF;refine aS ?_ ?_<;>intro h14 q15 hF
  ·have z16:((k:Int)<(x12.ctors.length:Int)):=auz
   repeat first|refine cg ?_|simp -dsimp[↓e13,h14,z16]
   revert hF;refine aS ?_ ?_<;>intro h17 q18 hF
   ·have z19:(0<(k:Int)):=auz
    have hF:=oc hF;obtain⟨c20,hF⟩:=hF
    have hF:=ob hF;obtain⟨x21,e22,hF⟩:=hF
    have le22:=ZD e22
    repeat first|refine cg ?_|simp -dsimp[↓e13,h17,z19,↓e22]
    have hF:=ob hF;obtain⟨v,e23,hF⟩:=hF
    refine((C.f30 B hB1 hB2 w x21 v e23)).goI ?_
    have hF:=oc hF;obtain⟨c24,hF⟩:=hF
    have dc24:=c24;simp only[zF]at dc24
    have hF:=oc hF;obtain⟨c25,hF⟩:=hF
    have w26:i64.wrap ((k:Int)+1)=(k:Int)+1:=ZF (by omega) (by omega)
    repeat first|refine cg ?_|simp -dsimp[↓e13,↓e22,w26]
    refine zT ((ih_f31 ((out11++(⟨#[124]⟩:ByteArray))++v) (k+1) o hF) _ rfl _ hq)
   ·have z19:¬(0<(k:Int)):=auz
    have hF:=ob hF;obtain⟨x27,e28,hF⟩:=hF
    have le28:=ZD e28
    repeat first|refine cg ?_|simp -dsimp[↓e13,h17,q18,z19,↓e28]
    have hF:=ob hF;obtain⟨v29,e30,hF⟩:=hF
    refine((C.f30 B hB1 hB2 w x27 v29 e30)).goI ?_
    have hF:=oc hF;obtain⟨c31,hF⟩:=hF
    have hF:=oc hF;obtain⟨c32,hF⟩:=hF
    have w33:i64.wrap ((k:Int)+1)=(k:Int)+1:=ZF (by omega) (by omega)
    repeat first|refine cg ?_|simp -dsimp[↓e13,↓e28,w33]
    refine zT ((ih_f31 (out11++v29) (k+1) o hF) _ rfl _ hq)
  ·have z16:¬((k:Int)<(x12.ctors.length:Int)):=auz
   cases hF
   repeat first|refine cg ?_|simp -dsimp[↓e13,h14,q15,z16]
   refine zU hq
theorem CC.f32 (w:List yC)(d:Nat):(∀(out41:ByteArray) (k42:Nat) (o:ByteArray),F.f32 w d out41 k42=some o->∀(c:Code),Zb [1,1,0,1,0,0,1,0,0,1,1,1,0,0] (ZK Tryz.f183)=some c->∀(Q:Exit->ASt->Prop),(Q (.exit 2) ⟨[(0,am yD w),(3,.lit (.string o)),(4,li (d:Int))],[]⟩)->ALoopU zQ B 0 51 (hold c .mk) ⟨[(0,am yD w),(3,.lit (.string out41)),(4,li (d:Int)),(5,li (k42:Int))],[]⟩ (hold Q .mk)):=by
 refine F.f32.partial_correctness w d
  _
  ?_
 ·intro _f_f32 ih_f32 out41 k42 o hF
  refine ZJ rfl fun Q hq hk hs=> ?_
  have b0:=hk 0
  simp -dsimp at b0
  clear hk hs
  refine eN ?_
  have hF:=ob hF;obtain⟨x43,e44,hF⟩:=hF
  have le44:=ZD e44
  repeat first|refine cg ?_|simp -dsimp[↓e44]
  revert hF;refine aS ?_ ?_<;>intro h45 q46 hF
  ·have z47:((k42:Int)<(x43.ctors.length:Int)):=auz
   repeat first|refine cg ?_|simp -dsimp[↓e44,h45,z47]
   revert hF;refine aS ?_ ?_<;>intro h48 q49 hF
   ·have z50:(0<(k42:Int)):=auz
    have hF:=oc hF;obtain⟨c51,hF⟩:=hF
    have hF:=ob hF;obtain⟨x52,e53,hF⟩:=hF
    have le53:=ZD e53
    repeat first|refine cg ?_|simp -dsimp[↓e44,h48,z50,↓e53]
    have hF:=ob hF;obtain⟨v54,e55,hF⟩:=hF
    refine((C.f30 B hB1 hB2 w x52 v54 e55)).goI ?_
    have hF:=oc hF;obtain⟨c56,hF⟩:=hF
    have dc56:=c56;simp only[zF]at dc56
    have hF:=oc hF;obtain⟨c57,hF⟩:=hF
    have w58:i64.wrap ((k42:Int)+1)=(k42:Int)+1:=ZF (by omega) (by omega)
    repeat first|refine cg ?_|simp -dsimp[↓e44,↓e53,w58]
    refine zT ((ih_f32 ((out41++(⟨#[124]⟩:ByteArray))++v54) (k42+1) o hF) _ rfl _ hq)
   ·have z50:¬(0<(k42:Int)):=auz
    have hF:=ob hF;obtain⟨x59,e60,hF⟩:=hF
    have le60:=ZD e60
    repeat first|refine cg ?_|simp -dsimp[↓e44,h48,q49,z50,↓e60]
    have hF:=ob hF;obtain⟨v61,e62,hF⟩:=hF
    refine((C.f30 B hB1 hB2 w x59 v61 e62)).goI ?_
    have hF:=oc hF;obtain⟨c63,hF⟩:=hF
    have hF:=oc hF;obtain⟨c64,hF⟩:=hF
    have w65:i64.wrap ((k42:Int)+1)=(k42:Int)+1:=ZF (by omega) (by omega)
    repeat first|refine cg ?_|simp -dsimp[↓e44,↓e60,w65]
    refine zT ((ih_f32 (out41++v61) (k42+1) o hF) _ rfl _ hq)
  ·have z47:¬((k42:Int)<(x43.ctors.length:Int)):=auz
   cases hF
   repeat first|refine cg ?_|simp -dsimp[↓e44,h45,q46,z47]
   refine zU hq
theorem CC.f33 (w:List yC):(∀(out:ByteArray) (d:Nat) (o:ByteArray),F.f33 w out d=some o->∀(c:Code),Zb [1,1,0,1,0,0] (ZK Tryz.f183)=some c->∀(Q:Exit->ASt->Prop),(Q (.exit 0) ⟨[(3,.lit (.string o))],[]⟩)->ALoopU zQ B 0 51 (hold c .mk) ⟨[(0,am yD w),(3,.lit (.string out)),(4,li (d:Int))],[]⟩ (hold Q .mk)):=by
 refine F.f33.partial_correctness w
  _
  ?_
 ·intro _f_f33 ih_f33 out d o hF
  refine ZJ rfl fun Q hq hk hs=> ?_
  have b0:=hk 0
  simp -dsimp at b0
  clear hk hs
  refine eN ?_
  repeat first|refine cg ?_|simp -dsimp
  revert hF;refine aS ?_ ?_<;>intro h1 q2 hF
  ·have z3:((d:Int)<(w.length:Int)):=auz
   repeat first|refine cg ?_|simp -dsimp[h1,z3]
   revert hF;refine aS ?_ ?_<;>intro h4 q5 hF
   ·have z6:(0<(d:Int)):=auz
    obtain⟨c7,hF⟩:=oc hF
    obtain⟨x,e8,hF⟩:=ob hF
    have le8:=ZD e8
    obtain⟨c9,hF⟩:=oc hF
    have dc9:=c9;simp only[zF]at dc9
    obtain⟨c10,hF⟩:=oc hF
    have dc10:=c10;simp only[zF]at dc10
    repeat first|refine cg ?_|simp -dsimp[h4,z6,↓e8]
    obtain⟨o',ho34,hF⟩:=ob hF
    refine zV (((CC.f31 B hB1 hB2 w d) (((out++(⟨#[59]⟩:ByteArray))++x.name)++(⟨#[61]⟩:ByteArray)) 0 o' ho34) _ rfl _ ?_)
    obtain⟨c35,hF⟩:=oc hF
    have w36:i64.wrap ((d:Int)+1)=(d:Int)+1:=ZF (by omega) (by omega)
    repeat first|refine cg ?_|simp -dsimp[w36]
    refine zT ((ih_f33 o' (d+1) o hF) _ rfl _ hq)
   ·have z6:¬(0<(d:Int)):=auz
    obtain⟨x37,e38,hF⟩:=ob hF
    have le38:=ZD e38
    obtain⟨c39,hF⟩:=oc hF
    obtain⟨c40,hF⟩:=oc hF
    have dc40:=c40;simp only[zF]at dc40
    repeat first|refine cg ?_|simp -dsimp[h4,q5,z6,↓e38]
    obtain⟨o'67,ho66,hF⟩:=ob hF
    refine zV (((CC.f32 B hB1 hB2 w d) ((out++x37.name)++(⟨#[61]⟩:ByteArray)) 0 o'67 ho66) _ rfl _ ?_)
    obtain⟨c68,hF⟩:=oc hF
    have w69:i64.wrap ((d:Int)+1)=(d:Int)+1:=ZF (by omega) (by omega)
    repeat first|refine cg ?_|simp -dsimp[w69]
    refine zT ((ih_f33 o'67 (d+1) o hF) _ rfl _ hq)
  ·have z3:¬((d:Int)<(w.length:Int)):=auz
   cases hF
   repeat first|refine cg ?_|simp -dsimp[h1,q2,z3]
   refine zU hq
theorem C.f34 (w:List yC)(r:ByteArray)(hF:F.f34 w=some r):PureCall zQ B 183 [am yD w] (.lit (.string r)):=by
 unfold F.f34 at hF
 refine zJ func183 rfl ntmps183 ?_
 repeat first|refine cg ?_|simp -dsimp
 obtain⟨o'71,ho70,hF⟩:=ob hF
 refine zV (((CC.f33 B hB1 hB2 w) zE 0 o'71 ho70) _ rfl _ ?_)
 cases hF
 repeat first|refine cg ?_|simp -dsimp
theorem CC.f35 (text:ByteArray)(v:List ByteArray):(∀(names:List ByteArray) (i:Nat) (o:Lo ((List yC)×Bool) (List ByteArray)),F.f35 text v names i=some o->∀(c:Code),Zb [1,1,1,1,0,1,0,0] (ZK Tryz.f161)=some c->∀(Q:Exit->ASt->Prop),o.post (fun r=>∀st,ZA2 zQ Tryz.f161 (fun r' _=>r'.le (.tup [am yD r.1,.lit (.bool r.2)])) .ret st->Q .ret st) (fun s=>Q (.exit 0) ⟨[(0,.lit (.string text)),(4,.own 0 (zA (α:=yC) [])),(5,.own 1 (zA (α:=ByteArray) s)),(6,am cS v)],[.elems 2 (zB yD []),.elems 1 (zB cS s)]⟩)->ALoopU zQ B 0 101 (hold c .mk) ⟨[(0,.lit (.string text)),(4,.own 0 (zA (α:=yC) [])),(5,.own 1 (zA (α:=ByteArray) names)),(6,am cS v),(7,li (i:Int))],[.elems 2 (zB yD []),.elems 1 (zB cS names)]⟩ (hold Q .mk)):=by
 refine F.f35.partial_correctness text v
  _
  ?_
 ·intro _f_f35 ih_f35 names i o hF
  refine ZJ rfl fun Q hq hk hs=> ?_
  have b6:=hk 6
  simp -dsimp at b6
  have d0:=hs 0 _ rfl
  simp -dsimp[zS]at d0
  have d1:=hs 1 _ rfl
  simp -dsimp[zS]at d1
  clear hk hs
  refine eN ?_
  repeat first|refine cg ?_|simp -dsimp
  revert hF;refine aS ?_ ?_<;>intro h2 q3 hF
  ·have z4:((i:Int)<(v.length:Int)):=auz
   repeat first|refine cg ?_|simp -dsimp[h2,z4]
   revert hF;refine aS ?_ ?_<;>intro h5 q6 hF
   ·have z7:((i:Int)<=4):=auz
    repeat first|refine cg ?_|simp -dsimp[h5,z7]
    revert hF;refine aN ?_ ?_<;>intro h8 q9 hF
    ·have hF:=ob hF;obtain⟨x,e10,hF⟩:=hF
     have le10:=ZD e10
     repeat first|refine cg ?_|simp -dsimp[h8,q9,↓e10]
     have hF:=ob hF;obtain⟨v11,e12,hF⟩:=hF
     refine((C.f3 B hB1 hB2 x 61 v11 e12)).goI ?_
     repeat first|refine cg ?_|simp -dsimp
     revert hF;refine aN ?_ ?_<;>intro h13 q14 hF
     ·have z15:¬((v11.length:Int)=2):=auz
      cases hF
      repeat first|refine cg ?_|simp -dsimp[h13,q14,z15]
      refine lG _ (gR _) (hq _ ?_)
      repeat first|refine cg ?_|simp -dsimp
     ·have z15:((v11.length:Int)=2):=auz
      have hF:=ob hF;obtain⟨x16,e17,hF⟩:=hF
      have le17:=ZD e17
      have hF:=oc hF;obtain⟨c18,hF⟩:=hF
      have w19:i64.wrap ((i:Int)+1)=(i:Int)+1:=ZF (by omega) (by omega)
      repeat first|refine cg ?_|simp -dsimp[↓e17,w19]
      refine zT ((ih_f35 (names++[x16]) (i+1) o hF) _ rfl _ hq)
    ·cases hF
     repeat first|refine cg ?_|simp -dsimp[h8,q9]
     refine zU hq
   ·have z7:¬((i:Int)<=4):=auz
    cases hF
    repeat first|refine cg ?_|simp -dsimp[h5,q6,z7]
    refine zU hq
  ·have z4:¬((i:Int)<(v.length:Int)):=auz
   cases hF
   repeat first|refine cg ?_|simp -dsimp[h2,q3,z4]
   refine zU hq
theorem CC.f36 (text:ByteArray)(v:List ByteArray)(out:List yC)(names21:List ByteArray)(i22:Nat)(v32:List ByteArray)(x34:ByteArray):(∀(out36:List Ctor) (k:Nat) (o:List Ctor),F.f36 text v out names21 i22 v32 x34 out36 k=some o->∀(c:Code),Zb [1,1,1,1,1,0,1,0,0,1,0,0,1,1,0,1,0,0] (ZK Tryz.f161)=some c->∀(Q:Exit->ASt->Prop),(Q (.exit 4) ⟨[(0,.lit (.string text)),(4,.own 0 (zA (α:=yC) out)),(5,am cS names21),(6,am cS v),(9,li (i22:Int)),(11,.ptr 2 0)],[.elems 2 (zB yD out),.dead,.cells [.lit (.string x34),.own 3 (zA (α:=Ctor) o)],.elems 3 (zB Ctor.c o)]⟩)->ALoopU zQ B 0 101 (hold c .mk) ⟨[(0,.lit (.string text)),(4,.own 0 (zA (α:=yC) out)),(5,am cS names21),(6,am cS v),(9,li (i22:Int)),(10,am cS v32),(11,.ptr 2 0),(12,li (k:Int))],[.elems 2 (zB yD out),.dead,.cells [.lit (.string x34),.own 3 (zA (α:=Ctor) out36)],.elems 3 (zB Ctor.c out36)]⟩ (hold Q .mk)):=by
 refine F.f36.partial_correctness text v out names21 i22 v32 x34
  _
  ?_
 ·intro _f_f36 ih_f36 out36 k o hF
  refine ZJ rfl fun Q hq hk hs=> ?_
  have b5:=hk 5
  simp -dsimp at b5
  have b6:=hk 6
  simp -dsimp at b6
  have b10:=hk 10
  simp -dsimp at b10
  have d0:=hs 0 _ rfl
  simp -dsimp[zS]at d0
  have d3:=hs 3 _ rfl
  simp -dsimp[zS]at d3
  clear hk hs
  refine eN ?_
  repeat first|refine cg ?_|simp -dsimp
  revert hF;refine aS ?_ ?_<;>intro h37 q38 hF
  ·have z39:((k:Int)<(v32.length:Int)):=auz
   repeat first|refine cg ?_|simp -dsimp[h37,z39]
   revert hF;refine aS ?_ ?_<;>intro h40 q41 hF
   ·have z42:((k:Int)<=4):=auz
    repeat first|refine cg ?_|simp -dsimp[h40,z42]
    refine zL [] [(0,1),(0,1),(0,0),(0,0),(0,0),(0,0),(0,0),(0,3),(0,3),(0,3),(2,2),(0,3)] [0,2,1,1,1,1,1,1,1,1,1,1] follows ?_
    obtain⟨x43,e44,hF⟩:=ob hF
    have le44:=ZD e44
    repeat first|refine cg ?_|simp -dsimp[↓e44]
    obtain⟨v45,e46,hF⟩:=ob hF
    refine((C.f10 B hB1 hB2 names21 x43 v45 e46)).pgoW (by simp_all) (by simp) ?_
    obtain⟨c47,hF⟩:=oc hF
    have w48:i64.wrap ((k:Int)+1)=(k:Int)+1:=ZF (by omega) (by omega)
    repeat first|refine cg ?_|simp -dsimp[w48]
    refine zT ((ih_f36 (out36++[v45]) (k+1) o hF) _ rfl _ hq)
   ·have z42:¬((k:Int)<=4):=auz
    cases hF
    repeat first|refine cg ?_|simp -dsimp[h40,q41,z42]
    refine zU hq
  ·have z39:¬((k:Int)<(v32.length:Int)):=auz
   cases hF
   repeat first|refine cg ?_|simp -dsimp[h37,q38,z39]
   refine zU hq
theorem CC.f37 (text:ByteArray)(v:List ByteArray)(names21:List ByteArray):(∀(out:List yC) (i22:Nat) (o:List yC),F.f37 text v out names21 i22=some o->∀(c:Code),Zb [1,1,1,1,1,0,1,0,0] (ZK Tryz.f161)=some c->∀(Q:Exit->ASt->Prop),(Q (.exit 2) ⟨[(0,.lit (.string text)),(4,.own 0 (zA (α:=yC) o))],[.elems 2 (zB yD o)]⟩)->ALoopU zQ B 0 101 (hold c .mk) ⟨[(0,.lit (.string text)),(4,.own 0 (zA (α:=yC) out)),(5,am cS names21),(6,am cS v),(9,li (i22:Int))],[.elems 2 (zB yD out),.dead]⟩ (hold Q .mk)):=by
 refine F.f37.partial_correctness text v names21
  _
  ?_
 ·intro _f_f37 ih_f37 out i22 o hF
  refine ZJ rfl fun Q hq hk hs=> ?_
  have b5:=hk 5
  simp -dsimp at b5
  have b6:=hk 6
  simp -dsimp at b6
  have d0:=hs 0 _ rfl
  simp -dsimp[zS]at d0
  clear hk hs
  refine eN ?_
  repeat first|refine cg ?_|simp -dsimp
  revert hF;refine aS ?_ ?_<;>intro h23 q24 hF
  ·have z25:((i22:Int)<(names21.length:Int)):=auz
   obtain⟨x26,e27,hF⟩:=ob hF
   have le27:=ZD e27
   repeat first|refine cg ?_|simp -dsimp[h23,z25,↓e27]
   obtain⟨v28,e29,hF⟩:=ob hF
   refine((C.f3 B hB1 hB2 x26 61 v28 e29)).goI ?_
   obtain⟨x30,e31,hF⟩:=ob hF
   have le31:=ZD e31
   repeat first|refine cg ?_|simp -dsimp[↓e31]
   obtain⟨v32,e33,hF⟩:=ob hF
   refine((C.f3 B hB1 hB2 x30 124 v32 e33)).goI ?_
   obtain⟨x34,e35,hF⟩:=ob hF
   have le35:=ZD e35
   repeat first|refine cg ?_|simp -dsimp[↓e35]
   obtain⟨o'50,ho49,hF⟩:=ob hF
   refine zW ⟨[(0,.lit (.string text)),(4,.own 0 (zA (α:=yC) out)),(5,.arr (zB cS names21)),(6,.arr (zB cS v)),(9,.lit (.int .i64 (i22:Int))),(10,.arr (zB cS v32)),(11,.ptr 2 0),(12,.lit (.int .i64 0))],[.elems 2 (zB yD out),.dead,.cells [.lit (.string x34),.own 3 (zA (α:=Ctor) [])],.elems 3 (zB Ctor.c [])]⟩ (by refine zY (yA 2 1 3 (by simp -dsimp;rfl) (by simp -dsimp)) ?_;exact(gT (by simp) (by simp_all))) ?_
   refine((CC.f36 B hB1 hB2 text v out names21 i22 v32 x34) [] 0 o'50 ho49) _ rfl _ ?_
   obtain⟨c51,hF⟩:=oc hF
   obtain⟨c52,hF⟩:=oc hF
   have w53:i64.wrap ((i22:Int)+1)=(i22:Int)+1:=ZF (by omega) (by omega)
   repeat first|refine cg ?_|simp -dsimp[w53]
   refine zT ((ih_f37 (out++[(⟨x34,o'50⟩:yC)]) (i22+1) o hF) _ rfl _ hq)
  ·have z25:¬((i22:Int)<(names21.length:Int)):=auz
   cases hF
   repeat first|refine cg ?_|simp -dsimp[h23,q24,z25]
   refine zU hq
theorem C.f38 (text:ByteArray)(r:(List yC)×Bool)(hF:F.f38 text=some r):PureCall zQ B 161 [.lit (.string text)] (.tup [am yD r.1,.lit (.bool r.2)]):=by
 unfold F.f38 at hF
 refine zJ func161 rfl ntmps161 ?_
 repeat first|refine cg ?_|simp -dsimp
 obtain⟨v,e1,hF⟩:=ob hF
 refine((C.f3 B hB1 hB2 text 59 v e1)).goI ?_
 repeat first|refine cg ?_|simp -dsimp
 obtain⟨o',ho20,hF⟩:=ob hF
 refine zV (((CC.f35 B hB1 hB2 text v) [] 0 o' ho20) _ rfl _ ?_)
 rcases o' with r0|sx
 ·dsimp only at hF
  cases hF
  intro st h
  simpa using h
 ·dsimp only at hF
  repeat first|refine cg ?_|simp -dsimp
  obtain⟨o'55,ho54,hF⟩:=ob hF
  refine zW ⟨[(0,.lit (.string text)),(4,.own 0 (zA (α:=yC) [])),(5,.arr (zB cS sx)),(6,.arr (zB cS v)),(9,.lit (.int .i64 0))],[.elems 2 (zB yD []),.dead]⟩ (by refine zY (zZ 5 (l:=1) (n:=zA (α:=ByteArray) sx) (sz:=1) (es:=zB cS sx) (by simp) (by simp) (by simp) (by simp)) ?_;exact(gT (by simp) (by simp -dsimp))) ?_
  refine((CC.f37 B hB1 hB2 text v sx) [] 0 o'55 ho54) _ rfl _ ?_
  repeat first|refine cg ?_|simp -dsimp
  obtain⟨v56,e57,hF⟩:=ob hF
  refine((C.f24 B hB1 hB2 o'55 v56 e57)).lend (by simp -dsimp) (by simp -dsimp) ?_
  repeat first|refine cg ?_|simp -dsimp
  revert hF;refine aS (fun h58 q59 hF=> ?_) (fun h58 q59 hF=> ?_)
  ·repeat first|refine cg ?_|simp -dsimp[h58]
   obtain⟨v60,e61,hF⟩:=ob hF
   refine((C.f34 B hB1 hB2 o'55 v60 e61)).lend (by simp -dsimp[h58]) (by simp -dsimp) ?_
   repeat first|refine cg ?_|simp -dsimp[h58]
   revert hF;refine aN ?_ ?_<;>intro h62 q63 hF
   ·cases hF
    repeat first|refine cg ?_|simp -dsimp[h58,h62,q63]
   ·cases hF
    repeat first|refine cg ?_|simp -dsimp[h58,h62,q63]
  ·cases hF
   repeat first|refine cg ?_|simp -dsimp[h58,q59]
theorem C.f39 (r':ZB)(r:(List yC)×ZB)(hF:F.f39 r'=some r):MutCall zQ B 132 [am cU r'.f0,li r'.f1] [.ptr 0 0] (am yD r.1) [am cU r.2.f0,li r.2.f1]:=by
 unfold F.f39 at hF
 refine zK func132 rfl ntmps132 ?_
 repeat first|refine cg ?_|simp -dsimp
 obtain⟨v,e1,hF⟩:=ob hF
 refine((C.f0 B hB1 hB2 v e1)).goI ?_
 repeat first|refine cg ?_|simp -dsimp
 obtain⟨v2,e3,hF⟩:=ob hF
 refine((C.f1 B hB1 hB2 r' (i64.wrap ((v.length:Int) -1)) v2 e3)).go 0 rfl (by simp) (by simp) (by simp) ?_
 obtain⟨x,e4a,hF⟩:=ob hF
 have e4a:=ZO e4a;obtain⟨ne4,e4⟩:=e4a
 have le4:=ZD e4
 repeat first|refine cg ?_|simp -dsimp[↓e4]
 obtain⟨v5,e6,hF⟩:=ob hF
 refine((C.f38 B hB1 hB2 x v5 e6)).goI ?_
 cases hF
 repeat first|refine cg ?_|simp -dsimp
theorem C.f40 (c':Ctor)(index':Int)(r:Bool)(hF:F.f40 c' index'=some r):PureCall zQ B 184 [.agg [.lit (.string c'.name),am zX c'.args,li c'.index],li index'] (.lit (.bool r)):=by
 unfold F.f40 at hF
 refine zJ func184 rfl ntmps184 ?_
 repeat first|refine cg ?_|simp -dsimp
 revert hF;refine aN ?_ ?_<;>intro h1 q2 hF
 ·repeat first|refine cg ?_|simp -dsimp[h1,q2]
  revert hF;refine aN ?_ ?_<;>intro h3 q4 hF
  ·cases hF
   repeat first|refine cg ?_|simp -dsimp[h1,q2,h3,q4]
  ·cases hF
   repeat first|refine cg ?_|simp -dsimp[h1,q2,eq_true h3,eq_true q4]
 ·cases hF
  repeat first|refine cg ?_|simp -dsimp[h1,q2]
theorem CC.f41 (w:List yC)(t:Ty):(∀(out:List Int) (k:Nat) (o:List Int),F.f41 w t out k=some o->∀(c:Code),Zb [1,1,1,0,1,0,0] (ZK Tryz.f162)=some c->∀(Q:Exit->ASt->Prop),(Q (.exit 0) ⟨[(5,.own 1 (zA (α:=Int) o))],[.dead,.elems 1 (zB cI o)]⟩)->ALoopU zQ B 0 40 (hold c .mk) ⟨[(0,am yD w),(3,.ptr 0 0),(5,.own 1 (zA (α:=Int) out)),(6,li (k:Int))],[.cells [li t.data,li t.index],.elems 1 (zB cI out)]⟩ (hold Q .mk)):=by
 refine F.f41.partial_correctness w t
  _
  ?_
 ·intro _f_f41 ih_f41 out k o hF
  refine ZJ rfl fun Q hq hk hs=> ?_
  have b0:=hk 0
  simp -dsimp at b0
  have d1:=hs 1 _ rfl
  simp -dsimp[zS]at d1
  clear hk hs
  refine eN ?_
  have hF:=ob hF;obtain⟨x,e3a,hF⟩:=hF
  have e3a:=ZO e3a;obtain⟨ne3,e3⟩:=e3a
  have le3:=ZD e3
  repeat first|refine cg ?_|simp -dsimp[↓e3]
  revert hF;refine aS ?_ ?_<;>intro h4 q5 hF
  ·have z6:((k:Int)<(x.ctors.length:Int)):=auz
   repeat first|refine cg ?_|simp -dsimp[↓e3,h4,z6]
   refine zM follows ?_
   have hF:=ob hF;obtain⟨x7,e8,hF⟩:=hF
   have le8:=ZD e8
   repeat first|refine cg ?_|simp -dsimp[↓e3,↓e8]
   have hF:=ob hF;obtain⟨v,e9,hF⟩:=hF
   refine((C.f40 B hB1 hB2 x7 t.index v e9)).pgoW (by simp_all) (by simp) ?_
   repeat first|refine cg ?_|simp -dsimp[↓e3,↓e8]
   revert hF;refine aS (fun h10 q11 hF=> ?_) (fun h10 q11 hF=> ?_)
   ·have hF:=oc hF;obtain⟨c12,hF⟩:=hF
    have hF:=oc hF;obtain⟨c13,hF⟩:=hF
    have w14:i64.wrap ((k:Int)+1)=(k:Int)+1:=ZF (by omega) (by omega)
    repeat first|refine cg ?_|simp -dsimp[↓e3,↓e8,h10,w14]
    refine zT ((ih_f41 (out++[(k:Int)]) (k+1) o hF) _ rfl _ hq)
   ·have hF:=oc hF;obtain⟨c15,hF⟩:=hF
    have w16:i64.wrap ((k:Int)+1)=(k:Int)+1:=ZF (by omega) (by omega)
    repeat first|refine cg ?_|simp -dsimp[↓e3,↓e8,h10,q11,w16]
    refine zT ((ih_f41 out (k+1) o hF) _ rfl _ hq)
  ·have z6:¬((k:Int)<(x.ctors.length:Int)):=auz
   cases hF
   repeat first|refine cg ?_|simp -dsimp[↓e3,h4,q5,z6]
   refine zU hq
theorem C.f42 (w:List yC)(t:Ty)(r:List Int)(hF:F.f42 w t=some r):PureCall zQ B 162 [am yD w,.agg [li t.data,li t.index]] (am cI r):=by
 unfold F.f42 at hF
 refine zJ func162 rfl ntmps162 ?_
 repeat first|refine cg ?_|simp -dsimp
 revert hF;refine aS ?_ ?_<;>intro h1 q2 hF
 ·cases hF
  repeat first|refine cg ?_|simp -dsimp[h1]
 ·repeat first|refine cg ?_|simp -dsimp[q2]
  have hF:=ob hF;obtain⟨o',ho17,hF⟩:=hF
  refine zV (((CC.f41 B hB1 hB2 w t) [] 0 o' ho17) _ rfl _ ?_)
  cases hF
  repeat first|refine cg ?_|simp -dsimp
theorem C.f43 (c':Ctor)(index':Int)(r:Int)(hF:F.f43 c' index'=some r):PureCall zQ B 175 [.agg [.lit (.string c'.name),am zX c'.args,li c'.index],li index'] (li r):=by
 unfold F.f43 at hF
 refine zJ func175 rfl ntmps175 ?_
 repeat first|refine cg ?_|simp -dsimp
 revert hF;refine aS ?_ ?_<;>intro h1 q2 hF
 ·cases hF
  repeat first|refine cg ?_|simp -dsimp[h1]
 ·cases hF
  repeat first|refine cg ?_|simp -dsimp[q2]
theorem CC.f44 (t:Ty)(x2:Ctor):(∀(out:List Ty) (i:Nat) (o:List Ty),F.f44 t x2 out i=some o->∀(c:Code),Zb [1,1,1,0,1,0,0] (ZK Tryz.f149)=some c->∀(Q:Exit->ASt->Prop),(Q (.exit 0) ⟨[(7,.own 1 (zA (α:=Ty) o))],[.dead,.elems 2 (zB zX o)]⟩)->ALoopU zQ B 0 46 (hold c .mk) ⟨[(4,.ptr 0 0),(7,.own 1 (zA (α:=Ty) out)),(8,.ptr 2 0),(9,li (i:Int))],[.cells [li t.data,li t.index],.elems 2 (zB zX out),.cells [.lit (.string x2.name),am zX x2.args,li x2.index]]⟩ (hold Q .mk)):=by
 refine F.f44.partial_correctness t x2
  _
  ?_
 ·intro _f_f44 ih_f44 out i o hF
  refine ZJ rfl fun Q hq hk hs=> ?_
  have d1:=hs 1 _ rfl
  simp -dsimp[zS]at d1
  have d2:=hs 2 _ rfl
  simp -dsimp[zS]at d2
  clear hk hs
  refine eN ?_
  repeat first|refine cg ?_|simp -dsimp
  revert hF;refine aS ?_ ?_<;>intro h4 q5 hF
  ·have z6:((i:Int)<(x2.args.length:Int)):=auz
   have hF:=ob hF;obtain⟨x7,e8,hF⟩:=hF
   have le8:=ZD e8
   repeat first|refine cg ?_|simp -dsimp[h4,z6,↓e8]
   revert hF;refine aS ?_ ?_<;>intro h9 q10 hF
   ·repeat first|refine cg ?_|simp -dsimp[h9]
    have hF:=ob hF;obtain⟨v,e11,hF⟩:=hF
    refine((C.f43 B hB1 hB2 x2 t.index v e11)).goI ?_
    have hF:=oc hF;obtain⟨c12,hF⟩:=hF
    have w13:i64.wrap ((i:Int)+1)=(i:Int)+1:=ZF (by omega) (by omega)
    repeat first|refine cg ?_|simp -dsimp[w13]
    refine zT ((ih_f44 (out++[(⟨x7.data,v⟩:Ty)]) (i+1) o hF) _ rfl _ hq)
   ·have hF:=oc hF;obtain⟨c14,hF⟩:=hF
    have w15:i64.wrap ((i:Int)+1)=(i:Int)+1:=ZF (by omega) (by omega)
    repeat first|refine cg ?_|simp -dsimp[q10,w15]
    refine zT ((ih_f44 (out++[x7]) (i+1) o hF) _ rfl _ hq)
  ·have z6:¬((i:Int)<(x2.args.length:Int)):=auz
   cases hF
   repeat first|refine cg ?_|simp -dsimp[h4,q5,z6]
   refine zU hq
theorem C.f45 (w:List yC)(t:Ty)(ctor:Int)(r:List Ty)(hF:F.f45 w t ctor=some r):PureCall zQ B 149 [am yD w,.agg [li t.data,li t.index],li ctor] (am zX r):=by
 unfold F.f45 at hF
 refine zJ func149 rfl ntmps149 ?_
 have hF:=ob hF;obtain⟨x,e1a,hF⟩:=hF
 have e1a:=ZO e1a;obtain⟨ne1,e1⟩:=e1a
 have le1:=ZD e1
 have hF:=ob hF;obtain⟨x2,e3a,hF⟩:=hF
 have e3a:=ZO e3a;obtain⟨ne3,e3⟩:=e3a
 have le3:=ZD e3
 repeat first|refine cg ?_|simp -dsimp[↓e1,↓e3]
 have hF:=ob hF;obtain⟨o',ho16,hF⟩:=hF
 refine zV (((CC.f44 B hB1 hB2 t x2) [] 0 o' ho16) _ rfl _ ?_)
 cases hF
 repeat first|refine cg ?_|simp -dsimp
theorem C.f46 (t:Ty)(r:Int)(hF:F.f46 t=some r):PureCall zQ B 164 [.agg [li t.data,li t.index]] (li r):=by
 unfold F.f46 at hF
 refine zJ func164 rfl ntmps164 ?_
 cases hF
 repeat first|refine cg ?_|simp -dsimp
theorem C.f47 (table:List Int)(t:Ty)(r:Int)(hF:F.f47 table t=some r):PureCall zQ B 134 [am cI table,.agg [li t.data,li t.index]] (li r):=by
 unfold F.f47 at hF
 refine zJ func134 rfl ntmps134 ?_
 repeat first|refine cg ?_|simp -dsimp
 revert hF;refine aS ?_ ?_<;>intro h1 q2 hF
 ·cases hF
  repeat first|refine cg ?_|simp -dsimp[h1]
 ·repeat first|refine cg ?_|simp -dsimp[q2]
  have hF:=ob hF;obtain⟨v,e3,hF⟩:=hF
  refine((C.f46 B hB1 hB2 t v e3)).goI ?_
  have hF:=ob hF;obtain⟨x,e4a,hF⟩:=hF
  have e4a:=ZO e4a;obtain⟨ne4,e4⟩:=e4a
  have le4:=ZD e4
  cases hF
  repeat first|refine cg ?_|simp -dsimp[↓e4]
theorem CC.f48 (table:List Int)(v:List Ty):(∀(most:Int) (i:Nat) (o:Lo Int Int),F.f48 table v most i=some o->∀(c:Code),Zb [1,1,1,0,1,0,0] (ZK Tryz.f163)=some c->∀(Q:Exit->ASt->Prop),o.post (fun r=>∀st,ZA2 zQ Tryz.f163 (fun r' _=>r'.le (li r)) .ret st->Q .ret st) (fun s=>Q (.exit 0) ⟨[(10,li s)],[]⟩)->ALoopU zQ B 0 37 (hold c .mk) ⟨[(1,am cI table),(9,am zX v),(10,li most),(11,li (i:Int))],[]⟩ (hold Q .mk)):=by
 refine F.f48.partial_correctness table v
  _
  ?_
 ·intro _f_f48 ih_f48 most i o hF
  refine ZJ rfl fun Q hq hk hs=> ?_
  have b1:=hk 1
  simp -dsimp at b1
  have b9:=hk 9
  simp -dsimp at b9
  clear hk hs
  refine eN ?_
  repeat first|refine cg ?_|simp -dsimp
  revert hF;refine aS ?_ ?_<;>intro h2 q3 hF
  ·have z4:((i:Int)<(v.length:Int)):=auz
   have hF:=ob hF;obtain⟨x,e5,hF⟩:=hF
   have le5:=ZD e5
   repeat first|refine cg ?_|simp -dsimp[h2,z4,↓e5]
   have hF:=ob hF;obtain⟨v6,e7,hF⟩:=hF
   refine((C.f47 B hB1 hB2 table x v6 e7)).goI ?_
   repeat first|refine cg ?_|simp -dsimp
   revert hF;refine aS ?_ ?_<;>intro h8 q9 hF
   ·cases hF
    repeat first|refine cg ?_|simp -dsimp[eq_true h8]
    refine lG _ (gR _) (hq _ ?_)
    repeat first|refine cg ?_|simp -dsimp
   ·repeat first|refine cg ?_|simp -dsimp[h8,q9]
    revert hF;refine aS ?_ ?_<;>intro h10 q11 hF
    ·have w12:i64.wrap ((i:Int)+1)=(i:Int)+1:=ZF (by omega) (by omega)
     repeat first|refine cg ?_|simp -dsimp[h10,w12]
     refine zT ((ih_f48 v6 (i+1) o hF) _ rfl _ hq)
    ·have w13:i64.wrap ((i:Int)+1)=(i:Int)+1:=ZF (by omega) (by omega)
     repeat first|refine cg ?_|simp -dsimp[h10,q11,w13]
     refine zT ((ih_f48 most (i+1) o hF) _ rfl _ hq)
  ·have z4:¬((i:Int)<(v.length:Int)):=auz
   cases hF
   repeat first|refine cg ?_|simp -dsimp[h2,q3,z4]
   refine zU hq
theorem C.f49 (w:List yC)(table:List Int)(t:Ty)(ctor:Int)(r:Int)(hF:F.f49 w table t ctor=some r):PureCall zQ B 163 [am yD w,am cI table,.agg [li t.data,li t.index],li ctor] (li r):=by
 unfold F.f49 at hF
 refine zJ func163 rfl ntmps163 ?_
 repeat first|refine cg ?_|simp -dsimp
 have hF:=ob hF;obtain⟨v,e1,hF⟩:=hF
 refine((C.f45 B hB1 hB2 w t ctor v e1)).goI ?_
 repeat first|refine cg ?_|simp -dsimp
 have hF:=ob hF;obtain⟨o',ho14,hF⟩:=hF
 refine zV (((CC.f48 B hB1 hB2 table v) 0 0 o' ho14) _ rfl _ ?_)
 rcases o' with r0|sx
 ·dsimp only at hF
  cases hF
  intro st h
  simpa using h
 ·dsimp only at hF
  cases hF
  repeat first|refine cg ?_|simp -dsimp
theorem CC.f50 (w:List yC)(n:Nat)(s:Nat)(v:List Int):(∀(table10:List Int) (i:Nat) (o:List Int),F.f50 w n s v table10 i=some o->∀(c:Code),Zb [1,1,0,1,0,0,1,0,0,1,0,0,1,0,0,1,1,1,0,0] (ZK Tryz.f133)=some c->∀(Q:Exit->ASt->Prop),(Q (.exit 4) ⟨[(0,am yD w),(3,.own 0 (zA (α:=Int) o)),(4,li (n:Int)),(5,li (s:Int))],[.elems 1 (zB cI o)]⟩)->ALoopU zQ B 0 70 (hold c .mk) ⟨[(0,am yD w),(3,.own 0 (zA (α:=Int) table10)),(4,li (n:Int)),(5,li (s:Int)),(6,.ptr 1 0),(7,am cI v),(8,li (i:Int))],[.elems 1 (zB cI table10),.cells [li (i64.wrap ((s:Int).tdiv 4)),li ((s:Int).tmod 4)]]⟩ (hold Q .mk)):=by
 refine F.f50.partial_correctness w n s v
  _
  ?_
 ·intro _f_f50 ih_f50 table10 i o hF
  refine ZJ rfl fun Q hq hk hs=> ?_
  have b0:=hk 0
  simp -dsimp at b0
  have b7:=hk 7
  simp -dsimp at b7
  have d0:=hs 0 _ rfl
  simp -dsimp[zS]at d0
  clear hk hs
  refine eN ?_
  repeat first|refine cg ?_|simp -dsimp
  revert hF;refine aS ?_ ?_<;>intro h11 q12 hF
  ·have z13:((i:Int)<(v.length:Int)):=auz
   repeat first|refine cg ?_|simp -dsimp[h11,z13]
   refine zL [163] [(0,0),(0,0),(0,0),(0,0),(0,0),(0,0),(0,0),(0,1),(1,1)] [1,1,1,1,1,1,1,1,1] follows ?_
   have hF:=ob hF;obtain⟨x,e14,hF⟩:=hF
   have le14:=ZD e14
   repeat first|refine cg ?_|simp -dsimp[↓e14]
   have hF:=ob hF;obtain⟨v15,e16,hF⟩:=hF
   refine((C.f49 B hB1 hB2 w table10 (⟨i64.wrap ((s:Int).tdiv 4),(s:Int).tmod 4⟩:Ty) x v15 e16)).elend (by simp -dsimp[h11,z13,↓e14]) (by simp -dsimp) ?_
   repeat first|refine cg ?_|simp -dsimp
   revert hF;refine aS ?_ ?_<;>intro h17 q18 hF
   ·have hF:=ob hF;obtain⟨x19,e20,hF⟩:=hF
    have le20:=ZD e20
    repeat first|refine cg ?_|simp -dsimp[h17,↓e20]
    revert hF;refine aN ?_ ?_<;>intro h21 q22 hF
    ·repeat first|refine cg ?_|simp -dsimp[h11,z13,↓e14,h17,↓e20,h21,q22]
     revert hF;refine aS ?_ ?_<;>intro h23 q24 hF
     ·have w25:i64.wrap ((i:Int)+1)=(i:Int)+1:=ZF (by omega) (by omega)
      repeat first|refine cg ?_|simp -dsimp[h11,z13,↓e14,h17,↓e20,h21,q22,h23,w25]
      refine zT ((ih_f50 (table10.set s v15) (i+1) o hF) _ rfl _ hq)
     ·have w26:i64.wrap ((i:Int)+1)=(i:Int)+1:=ZF (by omega) (by omega)
      repeat first|refine cg ?_|simp -dsimp[h23,q24,w26]
      refine zT ((ih_f50 table10 (i+1) o hF) _ rfl _ hq)
    ·have w27:i64.wrap ((i:Int)+1)=(i:Int)+1:=ZF (by omega) (by omega)
     repeat first|refine cg ?_|simp -dsimp[h11,z13,↓e14,h17,↓e20,eq_true h21,eq_true q22,w27]
     refine zT ((ih_f50 (table10.set s v15) (i+1) o hF) _ rfl _ hq)
   ·have w28:i64.wrap ((i:Int)+1)=(i:Int)+1:=ZF (by omega) (by omega)
    repeat first|refine cg ?_|simp -dsimp[h17,q18,w28]
    refine zT ((ih_f50 table10 (i+1) o hF) _ rfl _ hq)
  ·have z13:¬((i:Int)<(v.length:Int)):=auz
   cases hF
   repeat first|refine cg ?_|simp -dsimp[h11,q12,z13]
   refine zU hq
theorem CC.f51 (w:List yC)(n:Nat):(∀(table5:List Int) (s:Nat) (o:List Int),F.f51 w n table5 s=some o->∀(c:Code),Zb [1,1,0,1,0,0,1,0,0,1,0,0] (ZK Tryz.f133)=some c->∀(Q:Exit->ASt->Prop),(Q (.exit 2) ⟨[(0,am yD w),(3,.own 0 (zA (α:=Int) o)),(4,li (n:Int))],[.elems 1 (zB cI o)]⟩)->ALoopU zQ B 0 70 (hold c .mk) ⟨[(0,am yD w),(3,.own 0 (zA (α:=Int) table5)),(4,li (n:Int)),(5,li (s:Int))],[.elems 1 (zB cI table5)]⟩ (hold Q .mk)):=by
 refine F.f51.partial_correctness w n
  _
  ?_
 ·intro _f_f51 ih_f51 table5 s o hF
  refine ZJ rfl fun Q hq hk hs=> ?_
  have b0:=hk 0
  simp -dsimp at b0
  have d0:=hs 0 _ rfl
  simp -dsimp[zS]at d0
  clear hk hs
  refine eN ?_
  repeat first|refine cg ?_|simp -dsimp
  revert hF;refine aS ?_ ?_<;>intro h6 q7 hF
  ·have z8:((s:Int)<(table5.length:Int)):=auz
   repeat first|refine cg ?_|simp -dsimp[h6,z8]
   have hF:=ob hF;obtain⟨v,e9,hF⟩:=hF
   refine((C.f42 B hB1 hB2 w (⟨i64.wrap ((s:Int).tdiv 4),(s:Int).tmod 4⟩:Ty) v e9)).goI ?_
   repeat first|refine cg ?_|simp -dsimp
   have hF:=ob hF;obtain⟨o',ho29,hF⟩:=hF
   refine zV (((CC.f50 B hB1 hB2 w n s v) table5 0 o' ho29) _ rfl _ ?_)
   have hF:=oc hF;obtain⟨c30,hF⟩:=hF
   have w31:i64.wrap ((s:Int)+1)=(s:Int)+1:=ZF (by omega) (by omega)
   repeat first|refine cg ?_|simp -dsimp[w31]
   refine zT ((ih_f51 o' (s+1) o hF) _ rfl _ hq)
  ·have z8:¬((s:Int)<(table5.length:Int)):=auz
   cases hF
   repeat first|refine cg ?_|simp -dsimp[h6,q7,z8]
   refine zU hq
theorem CC.f52 (w:List yC):(∀(table:List Int) (n:Nat) (o:List Int),F.f52 w table n=some o->∀(c:Code),Zb [1,1,0,1,0,0] (ZK Tryz.f133)=some c->∀(Q:Exit->ASt->Prop),(Q (.exit 0) ⟨[(3,.own 0 (zA (α:=Int) o))],[.elems 1 (zB cI o)]⟩)->ALoopU zQ B 0 70 (hold c .mk) ⟨[(0,am yD w),(3,.own 0 (zA (α:=Int) table)),(4,li (n:Int))],[.elems 1 (zB cI table)]⟩ (hold Q .mk)):=by
 refine F.f52.partial_correctness w
  _
  ?_
 ·intro _f_f52 ih_f52 table n o hF
  refine ZJ rfl fun Q hq hk hs=> ?_
  have b0:=hk 0
  simp -dsimp at b0
  have d0:=hs 0 _ rfl
  simp -dsimp[zS]at d0
  clear hk hs
  refine eN ?_
  repeat first|refine cg ?_|simp -dsimp
  revert hF;refine aS ?_ ?_<;>intro h2 q3 hF
  ·have z4:((n:Int)<=(table.length:Int)):=auz
   repeat first|refine cg ?_|simp -dsimp[h2,z4]
   have hF:=ob hF;obtain⟨o'33,ho32,hF⟩:=hF
   refine zV (((CC.f51 B hB1 hB2 w n) table 0 o'33 ho32) _ rfl _ ?_)
   have hF:=oc hF;obtain⟨c34,hF⟩:=hF
   have w35:i64.wrap ((n:Int)+1)=(n:Int)+1:=ZF (by omega) (by omega)
   repeat first|refine cg ?_|simp -dsimp[w35]
   refine zT ((ih_f52 o'33 (n+1) o hF) _ rfl _ hq)
  ·have z4:¬((n:Int)<=(table.length:Int)):=auz
   cases hF
   repeat first|refine cg ?_|simp -dsimp[h2,q3,z4]
   refine zU hq
theorem C.f53 (w:List yC)(r:List Int)(hF:F.f53 w=some r):PureCall zQ B 133 [am yD w] (am cI r):=by
 unfold F.f53 at hF
 refine zJ func133 rfl ntmps133 ?_
 have hF:=oc hF;obtain⟨c1,hF⟩:=hF
 repeat first|refine cg ?_|simp -dsimp
 have hF:=ob hF;obtain⟨o'37,ho36,hF⟩:=hF
 refine zV (((CC.f52 B hB1 hB2 w) (List.replicate ((i64.wrap ((w.length:Int)*4)).toNat) 0) 0 o'37 ho36) _ rfl _ ?_)
 cases hF
 repeat first|refine cg ?_|simp -dsimp
theorem C.f54 (r':ZB)(list:List Int)(r:Int×ZB)(hF:F.f54 r' list=some r):MutCall zQ B 42 [am cU r'.f0,li r'.f1] [.ptr 0 0,am cI list] (li r.1) [am cU r.2.f0,li r.2.f1]:=by
 unfold F.f54 at hF
 refine zK func42 rfl ntmps42 ?_
 repeat first|refine cg ?_|simp -dsimp
 have hF:=ob hF;obtain⟨v,e1,hF⟩:=hF
 refine((C.f1 B hB1 hB2 r' (list.length:Int) v e1)).go 0 rfl (by simp) (by simp) (by simp) ?_
 have hF:=ob hF;obtain⟨x,e2a,hF⟩:=hF
 have e2a:=ZO e2a;obtain⟨ne2,e2⟩:=e2a
 have le2:=ZD e2
 cases hF
 repeat first|refine cg ?_|simp -dsimp[↓e2]
theorem CC.f55 (r':ZB)(w:List yC)(table:List Int)(t:Ty)(depth:Int)(v4:List Int):(∀(fine:List Int) (i:Nat) (o:List Int),F.f55 r' w table t depth v4 fine i=some o->∀(c:Code),Zb [1,1,1,1,0,1,0,0] (ZK Tryz.f135)=some c->∀(Q:Exit->ASt->Prop),(Q (.exit 0) ⟨[(0,.ptr 0 0),(1,am yD w),(2,am cI table),(4,li depth),(8,.ptr 1 0),(10,.ptr 2 0),(12,.own 3 (zA (α:=Int) o))],[.cells [am cU r'.f0,li r'.f1],.cells [li t.data,li t.index],.cells [li 0,li 0,.lit (.slice none 0 0)],.elems 1 (zB cI o)]⟩)->ALoopU zQ B 1 98 (hold c .mk) ⟨[(0,.ptr 0 0),(1,am yD w),(2,am cI table),(4,li depth),(8,.ptr 1 0),(10,.ptr 2 0),(11,am cI v4),(12,.own 3 (zA (α:=Int) fine)),(13,li (i:Int))],[.cells [am cU r'.f0,li r'.f1],.cells [li t.data,li t.index],.cells [li 0,li 0,.lit (.slice none 0 0)],.elems 1 (zB cI fine)]⟩ (hold Q .mk)):=by
 refine F.f55.partial_correctness r' w table t depth v4
  _
  ?_
 ·intro _f_f55 ih_f55 fine i o hF
  refine ZJ rfl fun Q hq hk hs=> ?_
  have b1:=hk 1
  simp -dsimp at b1
  have b2:=hk 2
  simp -dsimp at b2
  have b11:=hk 11
  simp -dsimp at b11
  have d0:=hs 0 _ rfl
  simp -dsimp[zS]at d0
  have d3:=hs 3 _ rfl
  simp -dsimp[zS]at d3
  clear hk hs
  refine eN ?_
  repeat first|refine cg ?_|simp -dsimp
  revert hF;refine aS ?_ ?_<;>intro h6 q7 hF
  ·have z8:((i:Int)<(v4.length:Int)):=auz
   repeat first|refine cg ?_|simp -dsimp[h6,z8]
   refine zM follows ?_
   have hF:=ob hF;obtain⟨x,e9,hF⟩:=hF
   have le9:=ZD e9
   repeat first|refine cg ?_|simp -dsimp[↓e9]
   have hF:=ob hF;obtain⟨v10,e11,hF⟩:=hF
   refine((C.f49 B hB1 hB2 w table t x v10 e11)).pgoW (by simp[h6,z8,↓e9]) (by simp) ?_
   repeat first|refine cg ?_|simp -dsimp
   revert hF;refine aS ?_ ?_<;>intro h12 q13 hF
   ·repeat first|refine cg ?_|simp -dsimp[h12]
    revert hF;refine aN ?_ ?_<;>intro h14 q15 hF
    ·repeat first|refine cg ?_|simp -dsimp[h14,q15]
     have hF:=ob hF;obtain⟨v16,e17,hF⟩:=hF
     refine((C.f47 B hB1 hB2 table t v16 e17)).goI ?_
     repeat first|refine cg ?_|simp -dsimp[h6,z8,↓e9,h12,h14,q15]
     revert hF;refine aS ?_ ?_<;>intro h18 q19 hF
     ·have hF:=oc hF;obtain⟨c20,hF⟩:=hF
      have w21:i64.wrap ((i:Int)+1)=(i:Int)+1:=ZF (by omega) (by omega)
      repeat first|refine cg ?_|simp -dsimp[h6,z8,↓e9,h12,h14,q15,h18,w21]
      refine zT ((ih_f55 (fine++[x]) (i+1) o hF) _ rfl _ hq)
     ·have w22:i64.wrap ((i:Int)+1)=(i:Int)+1:=ZF (by omega) (by omega)
      repeat first|refine cg ?_|simp -dsimp[h6,z8,↓e9,h12,h14,q15,h18,q19,w22]
      refine zT ((ih_f55 fine (i+1) o hF) _ rfl _ hq)
    ·have hF:=oc hF;obtain⟨c23,hF⟩:=hF
     have w24:i64.wrap ((i:Int)+1)=(i:Int)+1:=ZF (by omega) (by omega)
     repeat first|refine cg ?_|simp -dsimp[h6,z8,↓e9,h12,h14,q15,w24]
     refine zT ((ih_f55 (fine++[x]) (i+1) o hF) _ rfl _ hq)
   ·have w25:i64.wrap ((i:Int)+1)=(i:Int)+1:=ZF (by omega) (by omega)
    repeat first|refine cg ?_|simp -dsimp[q13,w25]
    refine zT ((ih_f55 fine (i+1) o hF) _ rfl _ hq)
  ·have z8:¬((i:Int)<(v4.length:Int)):=auz
   cases hF
   repeat first|refine cg ?_|simp -dsimp[h6,q7,z8]
   refine zU hq
theorem CC.f56 (w:List yC)(table:List Int):(∀(r':ZB) (t:Ty) (depth:Int) (r:Vl.Value×ZB),F.f56 r' w table t depth=some r->MutCall zQ B 135 [am cU r'.f0,li r'.f1] [.ptr 0 0,am yD w,am cI table,.agg [li t.data,li t.index],li depth] (.agg [li r.1.ctor,li r.1.n,am Vl.Value.c r.1.kids]) [am cU r.2.f0,li r.2.f1])/\
  (∀(depth:Int) (x29:Int) (v31:List Ty) (z:List Int) (z33:Int) (out:List Vl.Value) (i34:Nat) (o:(List Int)×Int×(List Vl.Value)),F.f57 w table depth x29 v31 z z33 out i34=some o->∀(c:Code),Zb [1,1,1,1,1,1,1,0,1,0,0] (ZK Tryz.f135)=some c->∀(Q:Exit->ASt->Prop),(Q (.exit 2) ⟨[(10,.ptr 2 0),(15,.ptr 4 0)],[.cells [am cU o.1,li o.2.1],.dead,.cells [li 0,li 0,.lit (.slice none 0 0)],.dead,.cells [li x29,li 0,.own 5 (zA (α:=Vl.Value) o.2.2)],.elems 3 (zB Vl.Value.c o.2.2)]⟩)->ALoopU zQ B 1 98 (hold c .mk) ⟨[(0,.ptr 0 0),(1,am yD w),(2,am cI table),(4,li depth),(10,.ptr 2 0),(15,.ptr 4 0),(16,am zX v31),(17,li (i34:Int))],[.cells [am cU z,li z33],.dead,.cells [li 0,li 0,.lit (.slice none 0 0)],.dead,.cells [li x29,li 0,.own 5 (zA (α:=Vl.Value) out)],.elems 3 (zB Vl.Value.c out)]⟩ (hold Q .mk)):=by
 refine F.f56.mutual_partial_correctness w table
  _ _
  ?_ ?_
 ·intro _f_f57 ih_f57 r' t depth r hF
  refine zK func135 rfl ntmps135 ?_
  repeat first|refine cg ?_|simp -dsimp
  revert hF;refine aS ?_ ?_<;>intro h1 q2 hF
  ·repeat first|refine cg ?_|simp -dsimp[h1]
   have hF:=ob hF;obtain⟨v,e3,hF⟩:=hF
   refine((C.f1 B hB1 hB2 r' 10 v e3)).go 0 rfl (by simp_all) (by simp) (by simp_all) ?_
   cases hF
   repeat first|refine cg ?_|simp -dsimp
  ·repeat first|refine cg ?_|simp -dsimp[q2]
   have hF:=ob hF;obtain⟨v4,e5,hF⟩:=hF
   refine((C.f42 B hB1 hB2 w t v4 e5)).goI ?_
   repeat first|refine cg ?_|simp -dsimp
   have hF:=ob hF;obtain⟨o',ho26,hF⟩:=hF
   refine zV (((CC.f55 B hB1 hB2 r' w table t depth v4) [] 0 o' ho26) _ rfl _ ?_)
   repeat first|refine cg ?_|simp -dsimp
   have hF:=ob hF;obtain⟨v27,e28,hF⟩:=hF
   refine((C.f1 B hB1 hB2 r' (o'.length:Int) v27 e28)).go 0 rfl (by simp) (by simp) (by simp) ?_
   have hF:=ob hF;obtain⟨x29,e30a,hF⟩:=hF
   have e30a:=ZO e30a;obtain⟨ne30,e30⟩:=e30a
   have le30:=ZD e30
   repeat first|refine cg ?_|simp -dsimp[↓e30]
   have hF:=ob hF;obtain⟨v31,e32,hF⟩:=hF
   refine((C.f45 B hB1 hB2 w t x29 v31 e32)).goI ?_
   repeat first|refine cg ?_|simp -dsimp
   have hF:=ob hF;obtain⟨o'45,ho44,hF⟩:=hF
   refine zW ⟨[(0,.ptr 0 0),(1,.arr (zB yD w)),(2,.arr (zB cI table)),(4,.lit (.int .i64 depth)),(10,.ptr 2 0),(15,.ptr 4 0),(16,.arr (zB zX v31)),(17,.lit (.int .i64 0))],[.cells [.arr (zB cU v27.2.f0),.lit (.int .i64 v27.2.f1)],.dead,.cells [.lit (.int .i64 0),.lit (.int .i64 0),.lit (.slice none 0 0)],.dead,.cells [.lit (.int .i64 x29),.lit (.int .i64 0),.own 5 (zA (α:=Vl.Value) [])],.elems 3 (zB Vl.Value.c [])]⟩ (by refine zY (yA 4 2 3 (by simp -dsimp;rfl) (by simp -dsimp)) ?_;exact(gT (by simp) (by simp_all))) ?_
   refine(ih_f57 depth x29 v31 v27.2.f0 v27.2.f1 [] 0 o'45 ho44) _ rfl _ ?_
   cases hF
   repeat first|refine cg ?_|simp -dsimp
 ·intro _f_f56 _f_f57 ih_f56 ih_f57 depth x29 v31 z z33 out i34 o hF
  refine ZJ rfl fun Q hq hk hs=> ?_
  have b1:=hk 1
  simp -dsimp at b1
  have b2:=hk 2
  simp -dsimp at b2
  have b16:=hk 16
  simp -dsimp at b16
  have d0:=hs 0 _ rfl
  simp -dsimp[zS]at d0
  have d5:=hs 5 _ rfl
  simp -dsimp[zS]at d5
  clear hk hs
  refine eN ?_
  repeat first|refine cg ?_|simp -dsimp
  revert hF;refine aS ?_ ?_<;>intro h35 q36 hF
  ·have z37:((i34:Int)<(v31.length:Int)):=auz
   repeat first|refine cg ?_|simp -dsimp[h35,z37]
   refine zL [135] [(0,2),(0,2),(0,0),(0,0),(0,0),(0,0),(0,0),(0,0),(0,0),(0,0),(0,0),(0,4),(0,4),(0,4),(3,3),(0,4)] [0,2,1,1,1,1,1,1,1,1,1,1,1,1,1,1] follows ?_
   have hF:=ob hF;obtain⟨x38,e39,hF⟩:=hF
   have le39:=ZD e39
   repeat first|refine cg ?_|simp -dsimp[↓e39]
   have hF:=ob hF;obtain⟨v40,e41,hF⟩:=hF
   refine((ih_f56 (⟨z,z33⟩:ZB) x38 (i64.wrap (depth-1)) v40 e41)).ego 0 rfl (by simp_all) (by simp) (by simp_all) ?_
   have hF:=oc hF;obtain⟨c42,hF⟩:=hF
   have w43:i64.wrap ((i34:Int)+1)=(i34:Int)+1:=ZF (by omega) (by omega)
   repeat first|refine cg ?_|simp -dsimp[w43]
   refine zT ((ih_f57 depth x29 v31 v40.2.f0 v40.2.f1 (out++[v40.1]) (i34+1) o hF) _ rfl _ hq)
  ·have z37:¬((i34:Int)<(v31.length:Int)):=auz
   cases hF
   repeat first|refine cg ?_|simp -dsimp[h35,q36,z37]
   refine zU hq
theorem C.f58 (r':ZB)(r:(List yC)×Ty×Vl.Value×ZB)(hF:F.f58 r'=some r):MutCall zQ B 104 [am cU r'.f0,li r'.f1] [.ptr 0 0] (.tup [am yD r.1,.agg [li r.2.1.data,li r.2.1.index],.agg [li r.2.2.1.ctor,li r.2.2.1.n,am Vl.Value.c r.2.2.1.kids]]) [am cU r.2.2.2.f0,li r.2.2.2.f1]:=by
 unfold F.f58 at hF
 refine zK func104 rfl ntmps104 ?_
 repeat first|refine cg ?_|simp -dsimp
 have hF:=ob hF;obtain⟨v,e1,hF⟩:=hF
 refine((C.f39 B hB1 hB2 r' v e1)).go 0 rfl (by simp) (by simp) (by simp) ?_
 repeat first|refine cg ?_|simp -dsimp
 have hF:=ob hF;obtain⟨v2,e3,hF⟩:=hF
 refine((C.f53 B hB1 hB2 v.1 v2 e3)).goI ?_
 repeat first|refine cg ?_|simp -dsimp
 have hF:=ob hF;obtain⟨v4,e5,hF⟩:=hF
 refine((C.f1 B hB1 hB2 v.2 (v.1.length:Int) v4 e5)).go 0 rfl (by simp) (by simp) (by simp) ?_
 repeat first|refine cg ?_|simp -dsimp
 have hF:=ob hF;obtain⟨v6,e7,hF⟩:=hF
 refine yE ?_ ((C.f54 B hB1 hB2 v4.2 [0,0,1,2] v6 e7)).ent
 repeat first|refine cg ?_|simp -dsimp
 refine((C.f54 B hB1 hB2 v4.2 [0,0,1,2] v6 e7)).go 0 rfl (by simp) (by simp) (by simp) ?_
 repeat first|refine cg ?_|simp -dsimp
 have hF:=ob hF;obtain⟨v8,e9,hF⟩:=hF
 refine((C.f47 B hB1 hB2 v2 (⟨v4.1,v6.1⟩:Ty) v8 e9)).goI ?_
 repeat first|refine cg ?_|simp -dsimp
 revert hF;refine aS ?_ ?_<;>intro h10 q11 hF
 ·repeat first|refine cg ?_|simp -dsimp[eq_true h10]
  refine zL [42,135] [(0,3),(0,3),(0,2),(0,2),(0,2),(0,2),(0,1),(0,5),(0,5),(0,5),(3,3),(0,5),(0,5)] [1,2,1,1,1,2,1,1,1,1,1,1,1] follows ?_
  repeat first|refine cg ?_|simp -dsimp
  have hF:=ob hF;obtain⟨v12,e13,hF⟩:=hF
  refine yH ?_ ((C.f54 B hB1 hB2 v6.2 [3,2,4,1] v12 e13)).ent
  repeat first|refine cg ?_|simp -dsimp
  refine((C.f54 B hB1 hB2 v6.2 [3,2,4,1] v12 e13)).ego 0 rfl (by simp_all) (by simp) (by simp_all) ?_
  repeat first|refine cg ?_|simp -dsimp
  have hF:=ob hF;obtain⟨v14,e15,hF⟩:=hF
  refine(((CC.f56 B hB1 hB2 v.1 v2).1 v12.2 (⟨(-1),0⟩:Ty) v12.1 v14 e15)).ego 0 rfl (by simp_all) (by simp) (by simp_all) ?_
  cases hF
  repeat first|refine cg ?_|simp -dsimp
 ·repeat first|refine cg ?_|simp -dsimp[h10,q11]
  refine zL [42,135] [(0,3),(0,3),(0,2),(0,2),(0,2),(0,2),(0,1),(0,5),(0,5),(0,5),(3,3),(0,5),(0,5)] [1,2,1,1,1,2,1,1,1,1,1,1,1] follows ?_
  repeat first|refine cg ?_|simp -dsimp
  have hF:=ob hF;obtain⟨v16,e17,hF⟩:=hF
  refine yH ?_ ((C.f54 B hB1 hB2 v6.2 [3,2,4,1] v16 e17)).ent
  repeat first|refine cg ?_|simp -dsimp
  refine((C.f54 B hB1 hB2 v6.2 [3,2,4,1] v16 e17)).ego 0 rfl (by simp_all) (by simp) (by simp_all) ?_
  repeat first|refine cg ?_|simp -dsimp
  have hF:=ob hF;obtain⟨v18,e19,hF⟩:=hF
  refine(((CC.f56 B hB1 hB2 v.1 v2).1 v16.2 (⟨v4.1,v6.1⟩:Ty) v16.1 v18 e19)).ego 0 rfl (by simp_all) (by simp) (by simp_all) ?_
  cases hF
  repeat first|refine cg ?_|simp -dsimp
theorem CC.f59 (w:List yC):(∀(r':ZB) (t:Ty) (depth:Int) (r:Pattern×ZB),F.f59 r' w t depth=some r->MutCall zQ B 186 [am cU r'.f0,li r'.f1] [.ptr 0 0,am yD w,.agg [li t.data,li t.index],li depth] (.agg [li r.1.op,li r.1.ctor,li r.1.n,li r.1.m,li r.1.var,am yJ r.1.kids]) [am cU r.2.f0,li r.2.f1])/\
  (∀(depth:Int) (x:Int) (v30:List Ty) (z:List Int) (z32:Int) (out:List Pattern) (i:Nat) (o:(List Int)×Int×(List Pattern)),F.f60 w depth x v30 z z32 out i=some o->∀(c:Code),Zb [1,1,1,1,1,1,1,1,0,1,0,0] (ZK Tryz.f186)=some c->∀(Q:Exit->ASt->Prop),(Q (.exit 0) ⟨[(8,.ptr 2 0),(11,.ptr 3 0)],[.cells [am cU o.1,li o.2.1],.dead,.cells [li 0,li 0,li 0,li 0,li 0,.lit (.slice none 0 0)],.cells [li 4,li x,li 0,li 0,li 0,.own 4 (zA (α:=Pattern) o.2.2)],.elems 6 (zB yJ o.2.2)]⟩)->ALoopU zQ B 1 96 (hold c .mk) ⟨[(0,.ptr 0 0),(1,am yD w),(3,li depth),(8,.ptr 2 0),(11,.ptr 3 0),(12,am zX v30),(13,li (i:Int))],[.cells [am cU z,li z32],.dead,.cells [li 0,li 0,li 0,li 0,li 0,.lit (.slice none 0 0)],.cells [li 4,li x,li 0,li 0,li 0,.own 4 (zA (α:=Pattern) out)],.elems 6 (zB yJ out)]⟩ (hold Q .mk)):=by
 refine F.f59.mutual_partial_correctness w
  _ _
  ?_ ?_
 ·intro _f_f59 _f_f60 ih_f59 ih_f60 r' t depth r hF
  refine zK func186 rfl ntmps186 ?_
  repeat first|refine cg ?_|simp -dsimp
  revert hF;refine aN ?_ ?_<;>intro h1 q2 hF
  ·repeat first|refine cg ?_|simp -dsimp[h1,q2]
   have hF:=ob hF;obtain⟨v,e3,hF⟩:=hF
   refine((C.f1 B hB1 hB2 r' 4 v e3)).go 0 rfl (by simp[h1,q2]) (by simp) (by simp[h1,q2]) ?_
   repeat first|refine cg ?_|simp -dsimp[h1,q2]
   revert hF;refine aS ?_ ?_<;>intro h4 q5 hF
   ·cases hF
    repeat first|refine cg ?_|simp -dsimp[h1,q2,h4]
   ·repeat first|refine cg ?_|simp -dsimp[h1,q2,h4,q5]
    have hF:=ob hF;obtain⟨v6,e7,hF⟩:=hF
    refine((C.f1 B hB1 hB2 v.2 6 v6 e7)).go 0 rfl (by simp[h1,q2,h4,q5]) (by simp) (by simp[h1,q2,h4,q5]) ?_
    repeat first|refine cg ?_|simp -dsimp[h1,q2,h4,q5]
    revert hF;refine aS ?_ ?_<;>intro h8 q9 hF
    ·repeat first|refine cg ?_|simp -dsimp[h1,q2,h4,q5,h8]
     refine zL [186,1000068] [(0,0),(0,0),(0,0),(0,0),(0,0),(0,5),(0,1),(0,1),(0,1),(0,1),(0,1),(0,5),(0,5),(0,5),(0,5)] [1,1,1,1,1,1,1,1,2,1,1,1,1,1,1] follows ?_
     repeat first|refine cg ?_|simp -dsimp[h1,q2,h4,q5,h8]
     have hF:=ob hF;obtain⟨v10,e11,hF⟩:=hF
     refine((ih_f59 v6.2 t (i64.wrap (depth-1)) v10 e11)).ego 0 rfl (by simp[h1,q2,h4,q5,h8]) (by simp) (by simp[h1,q2,h4,q5,h8]) ?_
     repeat first|refine cg ?_|simp -dsimp[h1,q2,h4,q5,h8]
     have hF:=ob hF;obtain⟨v12,e13,hF⟩:=hF
     refine((ih_f59 v10.2 t (i64.wrap (depth-1)) v12 e13)).ego 0 rfl (by simp[h1,q2,h4,q5,h8]) (by simp) (by simp[h1,q2,h4,q5,h8]) ?_
     cases hF
     repeat first|refine cg ?_|simp -dsimp[h1,q2,h4,q5,h8]
    ·repeat first|refine cg ?_|simp -dsimp[h1,q2,h4,q5,h8,q9]
     revert hF;refine aS ?_ ?_<;>intro h14 q15 hF
     ·repeat first|refine cg ?_|simp -dsimp[h1,q2,h4,q5,h8,q9,h14]
      have hF:=ob hF;obtain⟨v16,e17,hF⟩:=hF
      refine((C.f1 B hB1 hB2 v6.2 10 v16 e17)).go 0 rfl (by simp[h1,q2,h4,q5,h8,q9,h14]) (by simp) (by simp[h1,q2,h4,q5,h8,q9,h14]) ?_
      repeat first|refine cg ?_|simp -dsimp[h1,q2,h4,q5,h8,q9,h14]
      have hF:=ob hF;obtain⟨v18,e19,hF⟩:=hF
      refine((C.f1 B hB1 hB2 v16.2 (i64.wrap (10-v16.1)) v18 e19)).go 0 rfl (by simp[h1,q2,h4,q5,h8,q9,h14]) (by simp) (by simp[h1,q2,h4,q5,h8,q9,h14]) ?_
      repeat first|refine cg ?_|simp -dsimp[h1,q2,h4,q5,h8,q9,h14]
      have hF:=ob hF;obtain⟨v20,e21,hF⟩:=hF
      refine((C.f1 B hB1 hB2 v18.2 2 v20 e21)).go 0 rfl (by simp[h1,q2,h4,q5,h8,q9,h14]) (by simp) (by simp[h1,q2,h4,q5,h8,q9,h14]) ?_
      cases hF
      repeat first|refine cg ?_|simp -dsimp[h1,q2,h4,q5,h8,q9,h14]
     ·repeat first|refine cg ?_|simp -dsimp[h1,q2,h4,q5,h8,q9,h14,q15]
      have hF:=ob hF;obtain⟨v22,e23,hF⟩:=hF
      refine((C.f42 B hB1 hB2 w t v22 e23)).goI ?_
      repeat first|refine cg ?_|simp -dsimp[h1,q2,h4,q5,h8,q9,h14,q15]
      revert hF;refine aS ?_ ?_<;>intro h24 q25 hF
      ·have z26:((v22.length:Int)=0):=auz
       cases hF
       repeat first|refine cg ?_|simp -dsimp[h1,q2,h4,q5,h8,q9,h14,q15,h24,z26]
      ·have z26:¬((v22.length:Int)=0):=auz
       repeat first|refine cg ?_|simp -dsimp[h1,q2,h4,q5,h8,q9,h14,q15,h24,q25,z26]
       have hF:=ob hF;obtain⟨v27,e28,hF⟩:=hF
       refine((C.f1 B hB1 hB2 v6.2 (v22.length:Int) v27 e28)).go 0 rfl (by simp[h1,q2,h4,q5,h8,q9,h14,q15,h24,q25,z26]) (by simp) (by simp[h1,q2,h4,q5,h8,q9,h14,q15,h24,q25,z26]) ?_
       have hF:=ob hF;obtain⟨x,e29a,hF⟩:=hF
       have e29a:=ZO e29a;obtain⟨ne29,e29⟩:=e29a
       have le29:=ZD e29
       repeat first|refine cg ?_|simp -dsimp[h1,q2,h4,q5,h8,q9,h14,q15,h24,q25,z26,↓e29]
       have hF:=ob hF;obtain⟨v30,e31,hF⟩:=hF
       refine((C.f45 B hB1 hB2 w t x v30 e31)).goI ?_
       repeat first|refine cg ?_|simp -dsimp[h1,q2,h4,q5,h8,q9,h14,q15,h24,q25,z26,↓e29]
       have hF:=ob hF;obtain⟨o',ho42,hF⟩:=hF
       refine zW ⟨[(0,.ptr 0 0),(1,.arr (zB yD w)),(3,.lit (.int .i64 depth)),(8,.ptr 2 0),(11,.ptr 3 0),(12,.arr (zB zX v30)),(13,.lit (.int .i64 0))],[.cells [.arr (zB cU v27.2.f0),.lit (.int .i64 v27.2.f1)],.dead,.cells [.lit (.int .i64 0),.lit (.int .i64 0),.lit (.int .i64 0),.lit (.int .i64 0),.lit (.int .i64 0),.lit (.slice none 0 0)],.cells [.lit (.int .i64 4),.lit (.int .i64 x),.lit (.int .i64 0),.lit (.int .i64 0),.lit (.int .i64 0),.own 4 (zA (α:=Pattern) [])],.elems 6 (zB yJ [])]⟩ (by refine zY (yA 3 5 6 (by simp -dsimp;rfl) (by simp -dsimp)) ?_;exact(gT (by simp) (by simp -dsimp[h1,q2,h4,q5,h8,q9,h14,q15,h24,q25,z26,↓e29]))) ?_
       refine(ih_f60 depth x v30 v27.2.f0 v27.2.f1 [] 0 o' ho42) _ rfl _ ?_
       cases hF
       repeat first|refine cg ?_|simp -dsimp
  ·cases hF
   repeat first|refine cg ?_|simp -dsimp[h1,q2]
 ·intro _f_f59 _f_f60 ih_f59 ih_f60 depth x v30 z z32 out i o hF
  refine ZJ rfl fun Q hq hk hs=> ?_
  have b1:=hk 1
  simp -dsimp at b1
  have b12:=hk 12
  simp -dsimp at b12
  have d0:=hs 0 _ rfl
  simp -dsimp[zS]at d0
  have d4:=hs 4 _ rfl
  simp -dsimp[zS]at d4
  clear hk hs
  refine eN ?_
  repeat first|refine cg ?_|simp -dsimp
  revert hF;refine aS ?_ ?_<;>intro h33 q34 hF
  ·have z35:((i:Int)<(v30.length:Int)):=auz
   repeat first|refine cg ?_|simp -dsimp[h33,z35]
   refine zL [186] [(0,2),(0,2),(0,0),(0,0),(0,0),(0,0),(0,0),(0,0),(0,0),(0,0),(0,4),(0,4),(0,4),(3,3),(0,4)] [0,2,1,1,1,1,1,1,1,1,1,1,1,1,1] follows ?_
   have hF:=ob hF;obtain⟨x36,e37,hF⟩:=hF
   have le37:=ZD e37
   repeat first|refine cg ?_|simp -dsimp[h33,z35,↓e37]
   have hF:=ob hF;obtain⟨v38,e39,hF⟩:=hF
   refine((ih_f59 (⟨z,z32⟩:ZB) x36 (i64.wrap (depth-1)) v38 e39)).ego 0 rfl (by simp[h33,z35,↓e37]) (by simp) (by simp[h33,z35,↓e37]) ?_
   have hF:=oc hF;obtain⟨c40,hF⟩:=hF
   have w41:i64.wrap ((i:Int)+1)=(i:Int)+1:=ZF (by omega) (by omega)
   repeat first|refine cg ?_|simp -dsimp[h33,z35,↓e37,w41]
   refine zT ((ih_f60 depth x v30 v38.2.f0 v38.2.f1 (out++[v38.1]) (i+1) o hF) _ rfl _ hq)
  ·have z35:¬((i:Int)<(v30.length:Int)):=auz
   cases hF
   repeat first|refine cg ?_|simp -dsimp[h33,q34,z35]
   refine zU hq
theorem CC.f61  :(∀(r':ZB) (p:Pattern) (n:Int) (r:Pattern×Int×ZB),F.f61 r' p n=some r->MutCall zQ B 185 [am cU r'.f0,li r'.f1] [.ptr 0 0,.agg [li p.op,li p.ctor,li p.n,li p.m,li p.var,am yJ p.kids],li n] (.tup [.agg [li r.1.op,li r.1.ctor,li r.1.n,li r.1.m,li r.1.var,am yJ r.1.kids],li r.2.1]) [am cU r.2.2.f0,li r.2.2.f1])/\
  (∀(p:Pattern) (n:Int) (z28:List Int) (z29:Int) (out30:List Pattern) (i31:Nat) (next32:Int) (o:(List Int)×Int×(List Pattern)×Int),F.f63 p n z28 z29 out30 i31 next32=some o->∀(c:Code),Zb [1,1,1,1,1,1,0,1,0,0] (ZK Tryz.f185)=some c->∀(Q:Exit->ASt->Prop),(Q (.exit 0) ⟨[(0,.ptr 0 0),(6,.ptr 2 0),(8,.ptr 3 0),(9,li o.2.2.2)],[.cells [am cU o.1,li o.2.1],.dead,.cells [li 0,li 0,li 0,li 0,li 0,.lit (.slice none 0 0)],.cells [li p.op,li p.ctor,li p.n,li p.m,li p.var,.own 4 (zA (α:=Pattern) o.2.2.1)],.elems 6 (zB yJ o.2.2.1)]⟩)->ALoopU zQ B 1 82 (hold c .mk) ⟨[(0,.ptr 0 0),(4,.ptr 1 0),(6,.ptr 2 0),(8,.ptr 3 0),(9,li next32),(10,li (i31:Int))],[.cells [am cU z28,li z29],.cells [li p.op,li p.ctor,li p.n,li p.m,li p.var,am yJ p.kids],.cells [li 0,li 0,li 0,li 0,li 0,.lit (.slice none 0 0)],.cells [li p.op,li p.ctor,li p.n,li p.m,li p.var,.own 4 (zA (α:=Pattern) out30)],.elems 6 (zB yJ out30)]⟩ (hold Q .mk))/\
  (∀(p:Pattern) (n:Int) (z:List Int) (z12:Int) (out:List Pattern) (i:Nat) (next:Int) (o:(List Int)×Int×(List Pattern)×Int),F.f62 p n z z12 out i next=some o->∀(c:Code),Zb [1,1,1,1,1,1,0,1,0,0] (ZK Tryz.f185)=some c->∀(Q:Exit->ASt->Prop),(Q (.exit 0) ⟨[(0,.ptr 0 0),(6,.ptr 2 0),(8,.ptr 3 0),(9,li o.2.2.2)],[.cells [am cU o.1,li o.2.1],.dead,.cells [li 0,li 0,li 0,li 0,li 0,.lit (.slice none 0 0)],.cells [li p.op,li p.ctor,li p.n,li p.m,li p.var,.own 4 (zA (α:=Pattern) o.2.2.1)],.elems 6 (zB yJ o.2.2.1)]⟩)->ALoopU zQ B 1 82 (hold c .mk) ⟨[(0,.ptr 0 0),(4,.ptr 1 0),(6,.ptr 2 0),(8,.ptr 3 0),(9,li next),(10,li (i:Int))],[.cells [am cU z,li z12],.cells [li p.op,li p.ctor,li p.n,li p.m,li p.var,am yJ p.kids],.cells [li 0,li 0,li 0,li 0,li 0,.lit (.slice none 0 0)],.cells [li p.op,li p.ctor,li p.n,li p.m,li p.var,.own 4 (zA (α:=Pattern) out)],.elems 6 (zB yJ out)]⟩ (hold Q .mk)):=by
 refine F.f61.mutual_partial_correctness 
  _ _ _
  ?_ ?_ ?_
 ·intro _f_f63 _f_f62 ih_f63 ih_f62 r' p n r hF
  refine zK func185 rfl ntmps185 ?_
  repeat first|refine cg ?_|simp -dsimp
  revert hF;refine aN ?_ ?_<;>intro h1 q2 hF
  ·repeat first|refine cg ?_|simp -dsimp[h1,q2]
   revert hF;refine aN ?_ ?_<;>intro h3 q4 hF
   ·repeat first|refine cg ?_|simp -dsimp[h1,q2,h3,q4]
    revert hF;refine aS ?_ ?_<;>intro h5 q6 hF
    ·cases hF
     repeat first|refine cg ?_|simp -dsimp[h1,q2,h3,q4,h5]
    ·repeat first|refine cg ?_|simp -dsimp[h1,q2,h3,q4,h5,q6]
     revert hF;refine aS ?_ ?_<;>intro h7 q8 hF
     ·repeat first|refine cg ?_|simp -dsimp[h1,q2,h3,q4,h5,q6,h7]
      have hF:=ob hF;obtain⟨v,e9,hF⟩:=hF
      refine((C.f1 B hB1 hB2 r' 2 v e9)).go 0 rfl (by simp[h1,q2,h3,q4,h5,q6,h7]) (by simp) (by simp[h1,q2,h3,q4,h5,q6,h7]) ?_
      repeat first|refine cg ?_|simp -dsimp[h1,q2,h3,q4,h5,q6,h7]
      revert hF;refine aS ?_ ?_<;>intro h10 q11 hF
      ·cases hF
       repeat first|refine cg ?_|simp -dsimp[h1,q2,h3,q4,h5,q6,h7,h10]
      ·repeat first|refine cg ?_|simp -dsimp[h1,q2,h3,q4,h5,q6,h7,h10,q11]
       have hF:=ob hF;obtain⟨o',ho21,hF⟩:=hF
       refine zW ⟨[(0,.ptr 0 0),(4,.ptr 1 0),(6,.ptr 2 0),(8,.ptr 3 0),(9,.lit (.int .i64 n)),(10,.lit (.int .i64 0))],[.cells [.arr (zB cU v.2.f0),.lit (.int .i64 v.2.f1)],.cells [.lit (.int .i64 p.op),.lit (.int .i64 p.ctor),.lit (.int .i64 p.n),.lit (.int .i64 p.m),.lit (.int .i64 p.var),.arr (zB yJ p.kids)],.cells [.lit (.int .i64 0),.lit (.int .i64 0),.lit (.int .i64 0),.lit (.int .i64 0),.lit (.int .i64 0),.lit (.slice none 0 0)],.cells [.lit (.int .i64 p.op),.lit (.int .i64 p.ctor),.lit (.int .i64 p.n),.lit (.int .i64 p.m),.lit (.int .i64 p.var),.own 4 (zA (α:=Pattern) [])],.elems 6 (zB yJ [])]⟩ (by refine zY (yA 3 5 6 (by simp -dsimp;rfl) (by simp -dsimp)) ?_;exact(gT (by simp) (by simp -dsimp[h1,q2,h3,q4,h5,q6,h7,h10,q11]))) ?_
       refine(ih_f62 p n v.2.f0 v.2.f1 [] 0 n o' ho21) _ rfl _ ?_
       repeat first|refine cg ?_|simp -dsimp
       revert hF;refine aS ?_ ?_<;>intro h22 q23 hF
       ·repeat first|refine cg ?_|simp -dsimp[h22]
        have hF:=ob hF;obtain⟨v24,e25,hF⟩:=hF
        refine((C.f1 B hB1 hB2 (⟨o'.1,o'.2.1⟩:ZB) 6 v24 e25)).go 0 rfl (by simp[h22]) (by simp) (by simp[h22]) ?_
        repeat first|refine cg ?_|simp -dsimp[h22]
        revert hF;refine aS ?_ ?_<;>intro h26 q27 hF
        ·cases hF
         repeat first|refine cg ?_|simp -dsimp[h22,h26]
        ·cases hF
         repeat first|refine cg ?_|simp -dsimp[h22,h26,q27]
       ·cases hF
        repeat first|refine cg ?_|simp -dsimp[h22,q23]
     ·repeat first|refine cg ?_|simp -dsimp[h1,q2,h3,q4,h5,q6,h7,q8]
      have hF:=ob hF;obtain⟨o'43,ho42,hF⟩:=hF
      refine zW ⟨[(0,.ptr 0 0),(4,.ptr 1 0),(6,.ptr 2 0),(8,.ptr 3 0),(9,.lit (.int .i64 n)),(10,.lit (.int .i64 0))],[.cells [.arr (zB cU r'.f0),.lit (.int .i64 r'.f1)],.cells [.lit (.int .i64 p.op),.lit (.int .i64 p.ctor),.lit (.int .i64 p.n),.lit (.int .i64 p.m),.lit (.int .i64 p.var),.arr (zB yJ p.kids)],.cells [.lit (.int .i64 0),.lit (.int .i64 0),.lit (.int .i64 0),.lit (.int .i64 0),.lit (.int .i64 0),.lit (.slice none 0 0)],.cells [.lit (.int .i64 p.op),.lit (.int .i64 p.ctor),.lit (.int .i64 p.n),.lit (.int .i64 p.m),.lit (.int .i64 p.var),.own 4 (zA (α:=Pattern) [])],.elems 6 (zB yJ [])]⟩ (by refine zY (yA 3 5 6 (by simp -dsimp;rfl) (by simp -dsimp)) ?_;exact(gT (by simp) (by simp -dsimp[h1,q2,h3,q4,h5,q6,h7,q8]))) ?_
      refine(ih_f63 p n r'.f0 r'.f1 [] 0 n o'43 ho42) _ rfl _ ?_
      repeat first|refine cg ?_|simp -dsimp
      revert hF;refine aS ?_ ?_<;>intro h44 q45 hF
      ·repeat first|refine cg ?_|simp -dsimp[h44]
       have hF:=ob hF;obtain⟨v46,e47,hF⟩:=hF
       refine((C.f1 B hB1 hB2 (⟨o'43.1,o'43.2.1⟩:ZB) 6 v46 e47)).go 0 rfl (by simp[h44]) (by simp) (by simp[h44]) ?_
       repeat first|refine cg ?_|simp -dsimp[h44]
       revert hF;refine aS ?_ ?_<;>intro h48 q49 hF
       ·cases hF
        repeat first|refine cg ?_|simp -dsimp[h44,h48]
       ·cases hF
        repeat first|refine cg ?_|simp -dsimp[h44,h48,q49]
      ·cases hF
       repeat first|refine cg ?_|simp -dsimp[h44,q45]
   ·cases hF
    repeat first|refine cg ?_|simp -dsimp[h1,q2,h3,q4]
  ·cases hF
   repeat first|refine cg ?_|simp -dsimp[h1,q2]
 ·intro _f_f61 _f_f63 ih_f61 ih_f63 p n z28 z29 out30 i31 next32 o hF
  refine ZJ rfl fun Q hq hk hs=> ?_
  have d0:=hs 0 _ rfl
  simp -dsimp[zS]at d0
  have d1:=hs 1 _ rfl
  simp -dsimp[zS]at d1
  have d4:=hs 4 _ rfl
  simp -dsimp[zS]at d4
  clear hk hs
  refine eN ?_
  repeat first|refine cg ?_|simp -dsimp
  revert hF;refine aS ?_ ?_<;>intro h33 q34 hF
  ·have z35:((i31:Int)<(p.kids.length:Int)):=auz
   have hF:=ob hF;obtain⟨x36,e37,hF⟩:=hF
   have le37:=ZD e37
   repeat first|refine cg ?_|simp -dsimp[h33,z35,↓e37]
   have hF:=ob hF;obtain⟨v38,e39,hF⟩:=hF
   refine((ih_f61 (⟨z28,z29⟩:ZB) x36 next32 v38 e39)).go 0 rfl (by simp[h33,z35,↓e37]) (by simp) (by simp[h33,z35,↓e37]) ?_
   have hF:=oc hF;obtain⟨c40,hF⟩:=hF
   have w41:i64.wrap ((i31:Int)+1)=(i31:Int)+1:=ZF (by omega) (by omega)
   repeat first|refine cg ?_|simp -dsimp[h33,z35,↓e37,w41]
   refine zT ((ih_f63 p n v38.2.2.f0 v38.2.2.f1 (out30++[v38.1]) (i31+1) v38.2.1 o hF) _ rfl _ hq)
  ·have z35:¬((i31:Int)<(p.kids.length:Int)):=auz
   cases hF
   repeat first|refine cg ?_|simp -dsimp[h33,q34,z35]
   refine zU hq
 ·intro _f_f61 _f_f62 ih_f61 ih_f62 p n z z12 out i next o hF
  refine ZJ rfl fun Q hq hk hs=> ?_
  have d0:=hs 0 _ rfl
  simp -dsimp[zS]at d0
  have d1:=hs 1 _ rfl
  simp -dsimp[zS]at d1
  have d4:=hs 4 _ rfl
  simp -dsimp[zS]at d4
  clear hk hs
  refine eN ?_
  repeat first|refine cg ?_|simp -dsimp
  revert hF;refine aS ?_ ?_<;>intro h13 q14 hF
  ·have z15:((i:Int)<(p.kids.length:Int)):=auz
   have hF:=ob hF;obtain⟨x,e16,hF⟩:=hF
   have le16:=ZD e16
   repeat first|refine cg ?_|simp -dsimp[h13,z15,↓e16]
   have hF:=ob hF;obtain⟨v17,e18,hF⟩:=hF
   refine((ih_f61 (⟨z,z12⟩:ZB) x next v17 e18)).go 0 rfl (by simp[h13,z15,↓e16]) (by simp) (by simp[h13,z15,↓e16]) ?_
   have hF:=oc hF;obtain⟨c19,hF⟩:=hF
   have w20:i64.wrap ((i:Int)+1)=(i:Int)+1:=ZF (by omega) (by omega)
   repeat first|refine cg ?_|simp -dsimp[h13,z15,↓e16,w20]
   refine zT ((ih_f62 p n v17.2.2.f0 v17.2.2.f1 (out++[v17.1]) (i+1) v17.2.1 o hF) _ rfl _ hq)
  ·have z15:¬((i:Int)<(p.kids.length:Int)):=auz
   cases hF
   repeat first|refine cg ?_|simp -dsimp[h13,q14,z15]
   refine zU hq
theorem CC.f64 (list:List Int)(n:Int):(∀(i:Nat) (o:Lo Bool Unit),F.f64 list n i=some o->∀(c:Code),Zb [1,0,1,0,0] (ZK Tryz.f174)=some c->∀(Q:Exit->ASt->Prop),o.post (fun r=>∀st,ZA2 zQ Tryz.f174 (fun r' _=>r'.le (.lit (.bool r))) .ret st->Q .ret st) (fun s=>Q (.exit 0) ⟨[],[]⟩)->ALoopU zQ B 0 18 (hold c .mk) ⟨[(0,am cI list),(1,li n),(5,li (i:Int))],[]⟩ (hold Q .mk)):=by
 refine F.f64.partial_correctness list n
  _
  ?_
 ·intro _f_f64 ih_f64 i o hF
  refine ZJ rfl fun Q hq hk hs=> ?_
  have b0:=hk 0
  simp -dsimp at b0
  clear hk hs
  refine eN ?_
  repeat first|refine cg ?_|simp -dsimp
  revert hF;refine aS ?_ ?_<;>intro h1 q2 hF
  ·have z3:((i:Int)<(list.length:Int)):=auz
   have hF:=ob hF;obtain⟨x,e4,hF⟩:=hF
   have le4:=ZD e4
   repeat first|refine cg ?_|simp -dsimp[h1,z3,↓e4]
   revert hF;refine aS ?_ ?_<;>intro h5 q6 hF
   ·cases hF
    repeat first|refine cg ?_|simp -dsimp[h5]
    refine lG _ (gR _) (hq _ ?_)
    repeat first|refine cg ?_|simp -dsimp
   ·have w7:i64.wrap ((i:Int)+1)=(i:Int)+1:=ZF (by omega) (by omega)
    repeat first|refine cg ?_|simp -dsimp[q6,w7]
    refine zT ((ih_f64 (i+1) o hF) _ rfl _ hq)
  ·have z3:¬((i:Int)<(list.length:Int)):=auz
   cases hF
   repeat first|refine cg ?_|simp -dsimp[h1,q2,z3]
   refine zU hq
theorem C.f65 (list:List Int)(n:Int)(r:Bool)(hF:F.f65 list n=some r):PureCall zQ B 174 [am cI list,li n] (.lit (.bool r)):=by
 unfold F.f65 at hF
 refine zJ func174 rfl ntmps174 ?_
 repeat first|refine cg ?_|simp -dsimp
 have hF:=ob hF;obtain⟨o',ho8,hF⟩:=hF
 refine zV (((CC.f64 B hB1 hB2 list n) 0 o' ho8) _ rfl _ ?_)
 rcases o' with r0|sx
 ·dsimp only at hF
  cases hF
  intro st h
  simpa using h
 ·dsimp only at hF
  cases hF
  repeat first|refine cg ?_|simp -dsimp
theorem C.f66 (w:List yC)(t:Ty)(p:Pattern)(r:Bool)(hF:F.f66 w t p=some r):PureCall zQ B 147 [am yD w,.agg [li t.data,li t.index],.agg [li p.op,li p.ctor,li p.n,li p.m,li p.var,am yJ p.kids]] (.lit (.bool r)):=by
 unfold F.f66 at hF
 refine zJ func147 rfl ntmps147 ?_
 repeat first|refine cg ?_|simp -dsimp
 revert hF;refine aN ?_ ?_<;>intro h1 q2 hF
 ·repeat first|refine cg ?_|simp -dsimp[h1,q2]
  revert hF;refine aS ?_ ?_<;>intro h3 q4 hF
  ·repeat first|refine cg ?_|simp -dsimp[h1,q2,h3]
   revert hF;refine aN ?_ ?_<;>intro h5 q6 hF
   ·repeat first|refine cg ?_|simp -dsimp[h1,q2,h3,h5,q6]
    revert hF;refine aN ?_ ?_<;>intro h7 q8 hF
    ·have n9:¬(p.op=3):=by omega
     repeat first|refine cg ?_|simp -dsimp[h1,q2,h3,h5,q6,h7,q8,n9]
     revert hF;refine aS ?_ ?_<;>intro h10 q11 hF
     ·repeat first|refine cg ?_|simp -dsimp[h1,q2,h3,h5,q6,h7,q8,n9,h10]
      revert hF;refine aS ?_ ?_<;>intro h12 q13 hF
      ·have n14:¬(p.op=4):=by omega
       repeat first|refine cg ?_|simp -dsimp[h1,q2,h3,h5,q6,h7,q8,n9,h10,h12,n14]
       revert hF;refine aN ?_ ?_<;>intro h15 q16 hF
       ·cases hF
        repeat first|refine cg ?_|simp -dsimp[h1,q2,h3,h5,q6,h7,q8,n9,h10,h12,n14,h15,q16]
       ·have n17:¬(p.op=1):=by omega
        have n18:¬(p.op=5):=by omega
        cases hF
        repeat first|refine cg ?_|simp -dsimp[h1,q2,h3,h5,q6,h7,q8,n9,h10,h12,n14,h15,q16,n17,n18]
      ·cases hF
       repeat first|refine cg ?_|simp -dsimp[h1,q2,h3,h5,q6,h7,q8,n9,h10,h12,q13]
     ·cases hF
      repeat first|refine cg ?_|simp -dsimp[h1,q2,h3,h5,q6,h7,q8,n9,h10,q11]
    ·cases hF
     repeat first|refine cg ?_|simp -dsimp[h1,q2,h3,h5,q6,h7,q8]
   ·cases hF
    repeat first|refine cg ?_|simp -dsimp[h1,q2,h3,h5,q6]
  ·repeat first|refine cg ?_|simp -dsimp[h1,q2,h3,q4]
   revert hF;refine aN ?_ ?_<;>intro h19 q20 hF
   ·cases hF
    repeat first|refine cg ?_|simp -dsimp[h1,q2,h3,q4,h19,q20]
   ·repeat first|refine cg ?_|simp -dsimp[h1,q2,h3,q4,h19,q20]
    revert hF;refine aN ?_ ?_<;>intro h21 q22 hF
    ·repeat first|refine cg ?_|simp -dsimp[h1,q2,h3,q4,h19,q20,h21,q22]
     revert hF;refine aS ?_ ?_<;>intro h23 q24 hF
     ·repeat first|refine cg ?_|simp -dsimp[h1,q2,h3,q4,h19,q20,h21,q22,h23]
      revert hF;refine aS ?_ ?_<;>intro h25 q26 hF
      ·repeat first|refine cg ?_|simp -dsimp[h1,q2,h3,q4,h19,q20,h21,q22,h23,h25]
       revert hF;refine aN ?_ ?_<;>intro h27 q28 hF
       ·repeat first|refine cg ?_|simp -dsimp[h1,q2,h3,q4,h19,q20,h21,q22,h23,h25,h27,q28]
        revert hF;refine aN ?_ ?_<;>intro h29 q30 hF
        ·cases hF
         repeat first|refine cg ?_|simp -dsimp[h1,q2,h3,q4,h19,q20,h21,q22,h23,h25,h27,q28,h29,q30]
        ·repeat first|refine cg ?_|simp -dsimp[h1,q2,h3,q4,h19,q20,h21,q22,h23,h25,h27,q28,h29,q30]
         revert hF;refine aS ?_ ?_<;>intro h31 q32 hF
         ·cases hF
          repeat first|refine cg ?_|simp -dsimp[h1,q2,h3,q4,h19,q20,h21,q22,h23,h25,h27,q28,h29,q30,h31]
         ·repeat first|refine cg ?_|simp -dsimp[h1,q2,h3,q4,h19,q20,h21,q22,h23,h25,h27,q28,h29,q30,h31,q32]
          revert hF;refine aS ?_ ?_<;>intro h33 q34 hF
          ·cases hF
           repeat first|refine cg ?_|simp -dsimp[h1,q2,h3,q4,h19,q20,h21,q22,h23,h25,h27,q28,h29,q30,h31,q32,h33]
          ·cases hF
           repeat first|refine cg ?_|simp -dsimp[h1,q2,h3,q4,h19,q20,h21,q22,h23,h25,h27,q28,h29,q30,h31,q32,h33,q34]
       ·have n35:¬(p.op=1):=by omega
        have n36:¬(p.op=5):=by omega
        repeat first|refine cg ?_|simp -dsimp[h1,q2,h3,q4,h19,q20,h21,q22,h23,h25,h27,q28,n35,n36]
        refine zM follows ?_
        repeat first|refine cg ?_|simp -dsimp[h1,q2,h3,q4,h19,q20,h21,q22,h23,h25,h27,q28,n35,n36]
        have hF:=ob hF;obtain⟨v,e37,hF⟩:=hF
        refine((C.f42 B hB1 hB2 w t v e37)).pgoW (by simp[h1,q2,h3,q4,h19,q20,h21,q22,h23,h25,h27,q28,n35,n36]) (by simp) ?_
        repeat first|refine cg ?_|simp -dsimp[h1,q2,h3,q4,h19,q20,h21,q22,h23,h25,h27,q28,n35,n36]
        have hF:=ob hF;obtain⟨v38,e39,hF⟩:=hF
        refine((C.f65 B hB1 hB2 v p.ctor v38 e39)).pgoW (by simp[h1,q2,h3,q4,h19,q20,h21,q22,h23,h25,h27,q28,n35,n36]) (by simp) ?_
        cases hF
        repeat first|refine cg ?_|simp -dsimp[h1,q2,h3,q4,h19,q20,h21,q22,h23,h25,h27,q28,n35,n36]
      ·cases hF
       repeat first|refine cg ?_|simp -dsimp[h1,q2,h3,q4,h19,q20,h21,q22,h23,h25,q26]
     ·cases hF
      repeat first|refine cg ?_|simp -dsimp[h1,q2,h3,q4,h19,q20,h21,q22,h23,q24]
    ·have n40:¬(p.op=4):=by omega
     repeat first|refine cg ?_|simp -dsimp[h1,q2,h3,q4,h19,q20,h21,q22,n40]
     revert hF;refine aN ?_ ?_<;>intro h41 q42 hF
     ·cases hF
      repeat first|refine cg ?_|simp -dsimp[h1,q2,h3,q4,h19,q20,h21,q22,n40,h41,q42]
     ·have n43:¬(p.op=1):=by omega
      have n44:¬(p.op=5):=by omega
      repeat first|refine cg ?_|simp -dsimp[h1,q2,h3,q4,h19,q20,h21,q22,n40,h41,q42,n43,n44]
      revert hF;refine aS ?_ ?_<;>intro h45 q46 hF
      ·repeat first|refine cg ?_|simp -dsimp[h1,q2,h3,q4,h19,q20,h21,q22,n40,h41,q42,n43,n44,h45]
       revert hF;refine aS ?_ ?_<;>intro h47 q48 hF
       ·repeat first|refine cg ?_|simp -dsimp[h1,q2,h3,q4,h19,q20,h21,q22,n40,h41,q42,n43,n44,h45,h47]
        revert hF;refine aS ?_ ?_<;>intro h49 q50 hF
        ·cases hF
         repeat first|refine cg ?_|simp -dsimp[h1,q2,h3,q4,h19,q20,h21,q22,n40,h41,q42,n43,n44,h45,h47,h49]
        ·cases hF
         repeat first|refine cg ?_|simp -dsimp[h1,q2,h3,q4,h19,q20,h21,q22,n40,h41,q42,n43,n44,h45,h47,h49,q50]
       ·cases hF
        repeat first|refine cg ?_|simp -dsimp[h1,q2,h3,q4,h19,q20,h21,q22,n40,h41,q42,n43,n44,h45,h47,q48]
      ·cases hF
       repeat first|refine cg ?_|simp -dsimp[h1,q2,h3,q4,h19,q20,h21,q22,n40,h41,q42,n43,n44,h45,q46]
 ·repeat first|refine cg ?_|simp -dsimp[h1,q2]
  revert hF;refine aN ?_ ?_<;>intro h51 q52 hF
  ·repeat first|refine cg ?_|simp -dsimp[h1,q2,h51,q52]
   revert hF;refine aN ?_ ?_<;>intro h53 q54 hF
   ·have n55:¬(p.op=3):=by omega
    repeat first|refine cg ?_|simp -dsimp[h1,q2,h51,q52,h53,q54,n55]
    revert hF;refine aS ?_ ?_<;>intro h56 q57 hF
    ·repeat first|refine cg ?_|simp -dsimp[h1,q2,h51,q52,h53,q54,n55,h56]
     revert hF;refine aS ?_ ?_<;>intro h58 q59 hF
     ·have n60:¬(p.op=4):=by omega
      repeat first|refine cg ?_|simp -dsimp[h1,q2,h51,q52,h53,q54,n55,h56,h58,n60]
      revert hF;refine aN ?_ ?_<;>intro h61 q62 hF
      ·cases hF
       repeat first|refine cg ?_|simp -dsimp[h1,q2,h51,q52,h53,q54,n55,h56,h58,n60,h61,q62]
      ·have n63:¬(p.op=1):=by omega
       cases hF
       repeat first|refine cg ?_|simp -dsimp[h1,q2,h51,q52,h53,q54,n55,h56,h58,n60,h61,q62,n63]
     ·cases hF
      repeat first|refine cg ?_|simp -dsimp[h1,q2,h51,q52,h53,q54,n55,h56,h58,q59]
    ·cases hF
     repeat first|refine cg ?_|simp -dsimp[h1,q2,h51,q52,h53,q54,n55,h56,q57]
   ·cases hF
    repeat first|refine cg ?_|simp -dsimp[h1,q2,h51,q52,h53,q54]
  ·cases hF
   repeat first|refine cg ?_|simp -dsimp[h1,q2,h51,q52]
theorem C.f67 (op:Int)(r:Int)(hF:F.f67 op=some r):PureCall zQ B 150 [li op] (li r):=by
 unfold F.f67 at hF
 refine zJ func150 rfl ntmps150 ?_
 repeat first|refine cg ?_|simp -dsimp
 revert hF;refine aS ?_ ?_<;>intro h1 q2 hF
 ·cases hF
  repeat first|refine cg ?_|simp -dsimp[eq_true h1]
 ·repeat first|refine cg ?_|simp -dsimp[h1,q2]
  revert hF;refine aS ?_ ?_<;>intro h3 q4 hF
  ·cases hF
   repeat first|refine cg ?_|simp -dsimp[eq_true h3]
  ·repeat first|refine cg ?_|simp -dsimp[h3,q4]
   revert hF;refine aS ?_ ?_<;>intro h5 q6 hF
   ·cases hF
    repeat first|refine cg ?_|simp -dsimp[eq_true h5]
   ·cases hF
    repeat first|refine cg ?_|simp -dsimp[h5,q6]
theorem CC.f68 (t:Ty)(p:Pattern):(∀(out:List Ty) (i:Nat) (o:List Ty),F.f68 t p out i=some o->∀(c:Code),Zb [1,1,1,0,1,0,0] (ZK Tryz.f123)=some c->∀(Q:Exit->ASt->Prop),(Q (.exit 0) ⟨[(7,.own 2 (zA (α:=Ty) o))],[.dead,.dead,.elems 2 (zB zX o)]⟩)->ALoopU zQ B 0 30 (hold c .mk) ⟨[(4,.ptr 0 0),(5,.ptr 1 0),(7,.own 2 (zA (α:=Ty) out)),(8,li (i:Int))],[.cells [li t.data,li t.index],.cells [li p.op,li p.ctor,li p.n,li p.m,li p.var,am yJ p.kids],.elems 2 (zB zX out)]⟩ (hold Q .mk)):=by
 refine F.f68.partial_correctness t p
  _
  ?_
 ·intro _f_f68 ih_f68 out i o hF
  refine ZJ rfl fun Q hq hk hs=> ?_
  have d1:=hs 1 _ rfl
  simp -dsimp[zS]at d1
  have d2:=hs 2 _ rfl
  simp -dsimp[zS]at d2
  clear hk hs
  refine eN ?_
  repeat first|refine cg ?_|simp -dsimp
  have hF:=ob hF;obtain⟨v4,e5,hF⟩:=hF
  refine((C.f67 B hB1 hB2 p.op v4 e5)).goI ?_
  repeat first|refine cg ?_|simp -dsimp
  revert hF;refine aS ?_ ?_<;>intro h6 q7 hF
  ·have hF:=oc hF;obtain⟨c8,hF⟩:=hF
   have hF:=oc hF;obtain⟨c9,hF⟩:=hF
   have w10:i64.wrap ((i:Int)+1)=(i:Int)+1:=ZF (by omega) (by omega)
   repeat first|refine cg ?_|simp -dsimp[h6,w10]
   refine zT ((ih_f68 (out++[t]) (i+1) o hF) _ rfl _ hq)
  ·cases hF
   repeat first|refine cg ?_|simp -dsimp[h6,q7]
   refine zU hq
theorem C.f69 (w:List yC)(t:Ty)(p:Pattern)(r:List Ty)(hF:F.f69 w t p=some r):PureCall zQ B 123 [am yD w,.agg [li t.data,li t.index],.agg [li p.op,li p.ctor,li p.n,li p.m,li p.var,am yJ p.kids]] (am zX r):=by
 unfold F.f69 at hF
 refine zJ func123 rfl ntmps123 ?_
 repeat first|refine cg ?_|simp -dsimp
 revert hF;refine aS ?_ ?_<;>intro h1 q2 hF
 ·repeat first|refine cg ?_|simp -dsimp[h1]
  have hF:=ob hF;obtain⟨v,e3,hF⟩:=hF
  refine((C.f45 B hB1 hB2 w t p.ctor v e3)).goI ?_
  cases hF
  repeat first|refine cg ?_|simp -dsimp
 ·repeat first|refine cg ?_|simp -dsimp[q2]
  have hF:=ob hF;obtain⟨o',ho11,hF⟩:=hF
  refine zV (((CC.f68 B hB1 hB2 t p) [] 0 o' ho11) _ rfl _ ?_)
  cases hF
  repeat first|refine cg ?_|simp -dsimp
theorem CC.f70 (w:List yC):(∀(t:Ty) (p:Pattern) (depth:Int) (r:Bool),F.f70 w t p depth=some r->PureCall zQ B 119 [am yD w,.agg [li t.data,li t.index],.agg [li p.op,li p.ctor,li p.n,li p.m,li p.var,am yJ p.kids],li depth] (.lit (.bool r)))/\
  (∀(p:Pattern) (depth:Int) (v6:List Ty) (i:Nat) (o:Lo Bool Unit),F.f71 w p depth v6 i=some o->∀(c:Code),Zb [1,1,1,1,0,1,0,0] (ZK Tryz.f119)=some c->∀(Q:Exit->ASt->Prop),o.post (fun r=>∀st,ZA2 zQ Tryz.f119 (fun r' _=>r'.le (.lit (.bool r))) .ret st->Q .ret st) (fun s=>Q (.exit 0) ⟨[],[]⟩)->ALoopU zQ B 0 50 (hold c .mk) ⟨[(0,am yD w),(3,li depth),(6,.ptr 1 0),(9,am zX v6),(10,li (i:Int))],[.dead,.cells [li p.op,li p.ctor,li p.n,li p.m,li p.var,am yJ p.kids]]⟩ (hold Q .mk)):=by
 refine F.f70.mutual_partial_correctness w
  _ _
  ?_ ?_
 ·intro _f_f71 ih_f71 t p depth r hF
  refine zJ func119 rfl ntmps119 ?_
  repeat first|refine cg ?_|simp -dsimp
  revert hF;refine aN ?_ ?_<;>intro h1 q2 hF
  ·repeat first|refine cg ?_|simp -dsimp[h1,q2]
   have hF:=ob hF;obtain⟨v,e3,hF⟩:=hF
   refine((C.f66 B hB1 hB2 w t p v e3)).goI ?_
   repeat first|refine cg ?_|simp -dsimp[h1,q2]
   revert hF;refine aN (fun h4 q5 hF=> ?_) (fun h4 q5 hF=> ?_)
   ·cases hF
    repeat first|refine cg ?_|simp -dsimp[h1,q2,h4,q5]
   ·repeat first|refine cg ?_|simp -dsimp[h1,q2,h4,q5]
    have hF:=ob hF;obtain⟨v6,e7,hF⟩:=hF
    refine((C.f69 B hB1 hB2 w t p v6 e7)).goI ?_
    repeat first|refine cg ?_|simp -dsimp[h1,q2,h4,q5]
    revert hF;refine aN ?_ ?_<;>intro h8 q9 hF
    ·have z10:¬((p.kids.length:Int)=(v6.length:Int)):=auz
     cases hF
     repeat first|refine cg ?_|simp -dsimp[h1,q2,h4,q5,h8,q9,z10]
    ·have z10:((p.kids.length:Int)=(v6.length:Int)):=auz
     repeat first|refine cg ?_|simp -dsimp[h1,q2,h4,q5,h8,q9,z10]
     have hF:=ob hF;obtain⟨o',ho22,hF⟩:=hF
     refine zV ((ih_f71 p depth v6 0 o' ho22) _ rfl _ ?_)
     rcases o' with r0|sx
     ·dsimp only at hF
      cases hF
      intro st h
      simpa using h
     ·dsimp only at hF
      cases hF
      repeat first|refine cg ?_|simp -dsimp
  ·cases hF
   repeat first|refine cg ?_|simp -dsimp[h1,q2]
 ·intro _f_f70 _f_f71 ih_f70 ih_f71 p depth v6 i o hF
  refine ZJ rfl fun Q hq hk hs=> ?_
  have b0:=hk 0
  simp -dsimp at b0
  have b9:=hk 9
  simp -dsimp at b9
  have d1:=hs 1 _ rfl
  simp -dsimp[zS]at d1
  clear hk hs
  refine eN ?_
  repeat first|refine cg ?_|simp -dsimp
  revert hF;refine aS ?_ ?_<;>intro h11 q12 hF
  ·have z13:((i:Int)<(v6.length:Int)):=auz
   repeat first|refine cg ?_|simp -dsimp[h11,z13]
   refine zM follows ?_
   have hF:=ob hF;obtain⟨x,e14,hF⟩:=hF
   have le14:=ZD e14
   have hF:=ob hF;obtain⟨x15,e16,hF⟩:=hF
   have le16:=ZD e16
   repeat first|refine cg ?_|simp -dsimp[h11,z13,↓e14,↓e16]
   have hF:=ob hF;obtain⟨v17,e18,hF⟩:=hF
   refine((ih_f70 x x15 (i64.wrap (depth-1)) v17 e18)).pgoW (by simp[h11,z13,↓e14,↓e16]) (by simp) ?_
   repeat first|refine cg ?_|simp -dsimp[h11,z13,↓e14,↓e16]
   revert hF;refine aN (fun h19 q20 hF=> ?_) (fun h19 q20 hF=> ?_)
   ·cases hF
    repeat first|refine cg ?_|simp -dsimp[h11,z13,↓e14,↓e16,h19,q20]
    refine lG _ (gR _) (hq _ ?_)
    repeat first|refine cg ?_|simp -dsimp[h11,z13,↓e14,↓e16,h19,q20]
   ·have w21:i64.wrap ((i:Int)+1)=(i:Int)+1:=ZF (by omega) (by omega)
    repeat first|refine cg ?_|simp -dsimp[h11,z13,↓e14,↓e16,h19,q20,w21]
    refine zT ((ih_f71 p depth v6 (i+1) o hF) _ rfl _ hq)
  ·have z13:¬((i:Int)<(v6.length:Int)):=auz
   cases hF
   repeat first|refine cg ?_|simp -dsimp[h11,q12,z13]
   refine zU hq
theorem CC.f72  :(∀(p:Pattern) (most:Int) (r:Int),F.f72 p most=some r->PureCall zQ B 120 [.agg [li p.op,li p.ctor,li p.n,li p.m,li p.var,am yJ p.kids],li most] (li r))/\
  (∀(p:Pattern) (most:Int) (n:Int) (i:Nat) (o:Int),F.f73 p most n i=some o->∀(c:Code),Zb [1,1,0,1,0,0] (ZK Tryz.f120)=some c->∀(Q:Exit->ASt->Prop),(Q (.exit 0) ⟨[(5,li o)],[]⟩)->ALoopU zQ B 0 31 (hold c .mk) ⟨[(1,li most),(2,.ptr 0 0),(5,li n),(6,li (i:Int))],[.cells [li p.op,li p.ctor,li p.n,li p.m,li p.var,am yJ p.kids]]⟩ (hold Q .mk)):=by
 refine F.f72.mutual_partial_correctness 
  _ _
  ?_ ?_
 ·intro _f_f73 ih_f73 p most r hF
  refine zJ func120 rfl ntmps120 ?_
  repeat first|refine cg ?_|simp -dsimp
  have hF:=ob hF;obtain⟨o',ho9,hF⟩:=hF
  refine zV ((ih_f73 p most 1 0 o' ho9) _ rfl _ ?_)
  cases hF
  repeat first|refine cg ?_|simp -dsimp
 ·intro _f_f72 _f_f73 ih_f72 ih_f73 p most n i o hF
  refine ZJ rfl fun Q hq hk hs=> ?_
  have d0:=hs 0 _ rfl
  simp -dsimp[zS]at d0
  clear hk hs
  refine eN ?_
  repeat first|refine cg ?_|simp -dsimp
  revert hF;refine aS ?_ ?_<;>intro h1 q2 hF
  ·have z3:((i:Int)<(p.kids.length:Int)):=auz
   repeat first|refine cg ?_|simp -dsimp[h1,z3]
   revert hF;refine aS ?_ ?_<;>intro h4 q5 hF
   ·have hF:=ob hF;obtain⟨x,e6,hF⟩:=hF
    have le6:=ZD e6
    repeat first|refine cg ?_|simp -dsimp[h4,↓e6]
    have hF:=ob hF;obtain⟨v,e7,hF⟩:=hF
    refine((ih_f72 x (i64.wrap (most-n)) v e7)).goI ?_
    have w8:i64.wrap ((i:Int)+1)=(i:Int)+1:=ZF (by omega) (by omega)
    repeat first|refine cg ?_|simp -dsimp[w8]
    refine zT ((ih_f73 p most (i64.wrap (n+v)) (i+1) o hF) _ rfl _ hq)
   ·cases hF
    repeat first|refine cg ?_|simp -dsimp[h4,q5]
    refine zU hq
  ·have z3:¬((i:Int)<(p.kids.length:Int)):=auz
   cases hF
   repeat first|refine cg ?_|simp -dsimp[h1,q2,z3]
   refine zU hq
theorem CC.f74 (w:List yC):(∀(out:List VarType) (t:Ty) (p:Pattern) (r:List VarType),F.f74 out w t p=some r->BCall zQ B 95 [.elems 3 (zB yK out)] [.own 0 (zA (α:=VarType) out),am yD w,.agg [li t.data,li t.index],.agg [li p.op,li p.ctor,li p.n,li p.m,li p.var,am yJ p.kids]] (.own 0 (zA (α:=VarType) r)) [.elems 3 (zB yK r)])/\
  (∀(p:Pattern) (v30:List Ty) (out32:List VarType) (i33:Nat) (o:List VarType),F.f76 w p v30 out32 i33=some o->∀(c:Code),Zb [1,1,1,0,1,0,0] (ZK Tryz.f95)=some c->∀(Q:Exit->ASt->Prop),(Q (.exit 0) ⟨[(0,.own 0 (zA (α:=VarType) o))],[.elems 3 (zB yK o)]⟩)->ALoopU zQ B 1 58 (hold c .mk) ⟨[(0,.own 0 (zA (α:=VarType) out32)),(1,am yD w),(7,.ptr 2 0),(9,am zX v30),(10,li (i33:Int))],[.elems 3 (zB yK out32),.dead,.cells [li p.op,li p.ctor,li p.n,li p.m,li p.var,am yJ p.kids]]⟩ (hold Q .mk))/\
  (∀(p:Pattern) (v:List Ty) (out7:List VarType) (i:Nat) (o:List VarType),F.f75 w p v out7 i=some o->∀(c:Code),Zb [1,1,1,0,1,0,0] (ZK Tryz.f95)=some c->∀(Q:Exit->ASt->Prop),(Q (.exit 0) ⟨[(0,.own 0 (zA (α:=VarType) o))],[.elems 3 (zB yK o)]⟩)->ALoopU zQ B 1 58 (hold c .mk) ⟨[(0,.own 0 (zA (α:=VarType) out7)),(1,am yD w),(7,.ptr 2 0),(9,am zX v),(10,li (i:Int))],[.elems 3 (zB yK out7),.dead,.cells [li p.op,li p.ctor,li p.n,li p.m,li p.var,am yJ p.kids]]⟩ (hold Q .mk))/\
  (∀(p:Pattern) (v59:List Ty) (out61:List VarType) (i62:Nat) (o:List VarType),F.f77 w p v59 out61 i62=some o->∀(c:Code),Zb [1,1,1,0,1,0,0] (ZK Tryz.f95)=some c->∀(Q:Exit->ASt->Prop),(Q (.exit 0) ⟨[(0,.own 0 (zA (α:=VarType) o))],[.elems 3 (zB yK o)]⟩)->ALoopU zQ B 1 58 (hold c .mk) ⟨[(0,.own 0 (zA (α:=VarType) out61)),(1,am yD w),(7,.ptr 2 0),(9,am zX v59),(10,li (i62:Int))],[.elems 3 (zB yK out61),.dead,.cells [li p.op,li p.ctor,li p.n,li p.m,li p.var,am yJ p.kids]]⟩ (hold Q .mk)):=by
 refine F.f74.mutual_partial_correctness w
  _ _ _ _
  ?_ ?_ ?_ ?_
 ·intro _f_f76 _f_f75 _f_f77 ih_f76 ih_f75 ih_f77 out t p r hF
  refine yM func95 (by kernel_rfl) rfl ntmps95 (by simp) rfl (by simp) (by simp) (by simp) (by simp) (by simp) (gR _) ?_
  repeat first|refine cg ?_|simp -dsimp
  revert hF;refine aN ?_ ?_<;>intro h1 q2 hF
  ·repeat first|refine cg ?_|simp -dsimp[h1,q2]
   revert hF;refine aS ?_ ?_<;>intro h3 q4 hF
   ·have hF:=oc hF;obtain⟨c5,hF⟩:=hF
    repeat first|refine cg ?_|simp -dsimp[h3]
    have hF:=ob hF;obtain⟨v,e6,hF⟩:=hF
    refine((C.f69 B hB1 hB2 w t p v e6)).goI ?_
    repeat first|refine cg ?_|simp -dsimp
    have hF:=ob hF;obtain⟨o',ho29,hF⟩:=hF
    refine zV ((ih_f75 p v (out++[(⟨p.var,t⟩:VarType)]) 0 o' ho29) _ rfl _ ?_)
    cases hF
    repeat first|refine cg ?_|simp -dsimp
   ·repeat first|refine cg ?_|simp -dsimp[q4]
    have hF:=ob hF;obtain⟨v30,e31,hF⟩:=hF
    refine((C.f69 B hB1 hB2 w t p v30 e31)).goI ?_
    repeat first|refine cg ?_|simp -dsimp
    have hF:=ob hF;obtain⟨o'57,ho56,hF⟩:=hF
    refine zV ((ih_f76 p v30 out 0 o'57 ho56) _ rfl _ ?_)
    cases hF
    repeat first|refine cg ?_|simp -dsimp
  ·have hF:=oc hF;obtain⟨c58,hF⟩:=hF
   repeat first|refine cg ?_|simp -dsimp[h1,q2]
   have hF:=ob hF;obtain⟨v59,e60,hF⟩:=hF
   refine((C.f69 B hB1 hB2 w t p v59 e60)).goI ?_
   repeat first|refine cg ?_|simp -dsimp
   have hF:=ob hF;obtain⟨o'86,ho85,hF⟩:=hF
   refine zV ((ih_f77 p v59 (out++[(⟨p.var,t⟩:VarType)]) 0 o'86 ho85) _ rfl _ ?_)
   cases hF
   repeat first|refine cg ?_|simp -dsimp
 ·intro _f_f74 _f_f76 ih_f74 ih_f76 p v30 out32 i33 o hF
  refine ZJ rfl fun Q hq hk hs=> ?_
  have b1:=hk 1
  simp -dsimp at b1
  have b9:=hk 9
  simp -dsimp at b9
  have d0:=hs 0 _ rfl
  simp -dsimp[zS]at d0
  have d2:=hs 2 _ rfl
  simp -dsimp[zS]at d2
  clear hk hs
  refine eN ?_
  repeat first|refine cg ?_|simp -dsimp
  revert hF;refine aS ?_ ?_<;>intro h34 q35 hF
  ·have z36:((i33:Int)<(v30.length:Int)):=auz
   repeat first|refine cg ?_|simp -dsimp[h34,z36]
   revert hF;refine aN ?_ ?_<;>intro h37 q38 hF
   ·have z39:¬((i33:Int)=0):=auz
    repeat first|refine cg ?_|simp -dsimp[h34,z36,h37,q38,z39]
    revert hF;refine aN ?_ ?_<;>intro h40 q41 hF
    ·repeat first|refine cg ?_|simp -dsimp[h34,z36,h37,q38,z39,h40,q41]
     refine zL [95] [(0,0),(0,0),(0,0),(0,0),(0,0),(0,0),(0,0),(0,0),(0,0),(0,0),(0,0),(0,1),(1,1)] [1,1,1,1,1,1,1,1,1,1,1,1,1] follows ?_
     have hF:=ob hF;obtain⟨x42,e43,hF⟩:=hF
     have le43:=ZD e43
     have hF:=ob hF;obtain⟨x44,e45,hF⟩:=hF
     have le45:=ZD e45
     repeat first|refine cg ?_|simp -dsimp[↓e43,↓e45]
     have hF:=ob hF;obtain⟨v46,e47,hF⟩:=hF
     refine((ih_f74 out32 x42 x44 v46 e47)).ego (pl [0]) (by simp) (by simp) (ZBE _ rfl (by decide)) (by intro i hi hi';simp at hi hi';first|omega|(subst hi';simp[pl])) (by simp[h34,z36,h37,q38,z39,h40,q41,↓e43,↓e45]) (by simp[h34,z36,h37,q38,z39,h40,q41,↓e43,↓e45]) ?_
     have w48:i64.wrap ((i33:Int)+1)=(i33:Int)+1:=ZF (by omega) (by omega)
     repeat first|refine cg ?_|simp -dsimp[w48]
     refine zT ((ih_f76 p v30 v46 (i33+1) o hF) _ rfl _ hq)
    ·cases hF
     repeat first|refine cg ?_|simp -dsimp[h34,z36,h37,q38,z39,h40,q41]
     refine zU hq
   ·have z39:((i33:Int)=0):=auz
    repeat first|refine cg ?_|simp -dsimp[h34,z36,eq_true h37,eq_true q38,eq_true z39]
    refine zL [95] [(0,0),(0,0),(0,0),(0,0),(0,0),(0,0),(0,0),(0,0),(0,0),(0,0),(0,0),(0,1),(1,1)] [1,1,1,1,1,1,1,1,1,1,1,1,1] follows ?_
    have hF:=ob hF;obtain⟨x49,e50,hF⟩:=hF
    have le50:=ZD e50
    have hF:=ob hF;obtain⟨x51,e52,hF⟩:=hF
    have le52:=ZD e52
    repeat first|refine cg ?_|simp -dsimp[↓e50,↓e52]
    have hF:=ob hF;obtain⟨v53,e54,hF⟩:=hF
    refine((ih_f74 out32 x49 x51 v53 e54)).ego (pl [0]) (by simp) (by simp) (ZBE _ rfl (by decide)) (by intro i hi hi';simp at hi hi';first|omega|(subst hi';simp[pl])) (by simp[h34,z36,eq_true h37,eq_true q38,eq_true z39,↓e50,↓e52]) (by simp[h34,z36,eq_true h37,eq_true q38,eq_true z39,↓e50,↓e52]) ?_
    have w55:i64.wrap ((i33:Int)+1)=(i33:Int)+1:=ZF (by omega) (by omega)
    repeat first|refine cg ?_|simp -dsimp[w55]
    refine zT ((ih_f76 p v30 v53 (i33+1) o hF) _ rfl _ hq)
  ·have z36:¬((i33:Int)<(v30.length:Int)):=auz
   cases hF
   repeat first|refine cg ?_|simp -dsimp[h34,q35,z36]
   refine zU hq
 ·intro _f_f74 _f_f75 ih_f74 ih_f75 p v out7 i o hF
  refine ZJ rfl fun Q hq hk hs=> ?_
  have b1:=hk 1
  simp -dsimp at b1
  have b9:=hk 9
  simp -dsimp at b9
  have d0:=hs 0 _ rfl
  simp -dsimp[zS]at d0
  have d2:=hs 2 _ rfl
  simp -dsimp[zS]at d2
  clear hk hs
  refine eN ?_
  repeat first|refine cg ?_|simp -dsimp
  revert hF;refine aS ?_ ?_<;>intro h8 q9 hF
  ·have z10:((i:Int)<(v.length:Int)):=auz
   repeat first|refine cg ?_|simp -dsimp[h8,z10]
   revert hF;refine aN ?_ ?_<;>intro h11 q12 hF
   ·have z13:¬((i:Int)=0):=auz
    repeat first|refine cg ?_|simp -dsimp[h8,z10,h11,q12,z13]
    revert hF;refine aN ?_ ?_<;>intro h14 q15 hF
    ·repeat first|refine cg ?_|simp -dsimp[h8,z10,h11,q12,z13,h14,q15]
     refine zL [95] [(0,0),(0,0),(0,0),(0,0),(0,0),(0,0),(0,0),(0,0),(0,0),(0,0),(0,0),(0,1),(1,1)] [1,1,1,1,1,1,1,1,1,1,1,1,1] follows ?_
     have hF:=ob hF;obtain⟨x,e16,hF⟩:=hF
     have le16:=ZD e16
     have hF:=ob hF;obtain⟨x17,e18,hF⟩:=hF
     have le18:=ZD e18
     repeat first|refine cg ?_|simp -dsimp[↓e16,↓e18]
     have hF:=ob hF;obtain⟨v19,e20,hF⟩:=hF
     refine((ih_f74 out7 x x17 v19 e20)).ego (pl [0]) (by simp) (by simp) (ZBE _ rfl (by decide)) (by intro i hi hi';simp at hi hi';first|omega|(subst hi';simp[pl])) (by simp[h8,z10,h11,q12,z13,h14,q15,↓e16,↓e18]) (by simp[h8,z10,h11,q12,z13,h14,q15,↓e16,↓e18]) ?_
     have w21:i64.wrap ((i:Int)+1)=(i:Int)+1:=ZF (by omega) (by omega)
     repeat first|refine cg ?_|simp -dsimp[w21]
     refine zT ((ih_f75 p v v19 (i+1) o hF) _ rfl _ hq)
    ·cases hF
     repeat first|refine cg ?_|simp -dsimp[h8,z10,h11,q12,z13,h14,q15]
     refine zU hq
   ·have z13:((i:Int)=0):=auz
    repeat first|refine cg ?_|simp -dsimp[h8,z10,eq_true h11,eq_true q12,eq_true z13]
    refine zL [95] [(0,0),(0,0),(0,0),(0,0),(0,0),(0,0),(0,0),(0,0),(0,0),(0,0),(0,0),(0,1),(1,1)] [1,1,1,1,1,1,1,1,1,1,1,1,1] follows ?_
    have hF:=ob hF;obtain⟨x22,e23,hF⟩:=hF
    have le23:=ZD e23
    have hF:=ob hF;obtain⟨x24,e25,hF⟩:=hF
    have le25:=ZD e25
    repeat first|refine cg ?_|simp -dsimp[↓e23,↓e25]
    have hF:=ob hF;obtain⟨v26,e27,hF⟩:=hF
    refine((ih_f74 out7 x22 x24 v26 e27)).ego (pl [0]) (by simp) (by simp) (ZBE _ rfl (by decide)) (by intro i hi hi';simp at hi hi';first|omega|(subst hi';simp[pl])) (by simp[h8,z10,eq_true h11,eq_true q12,eq_true z13,↓e23,↓e25]) (by simp[h8,z10,eq_true h11,eq_true q12,eq_true z13,↓e23,↓e25]) ?_
    have w28:i64.wrap ((i:Int)+1)=(i:Int)+1:=ZF (by omega) (by omega)
    repeat first|refine cg ?_|simp -dsimp[w28]
    refine zT ((ih_f75 p v v26 (i+1) o hF) _ rfl _ hq)
  ·have z10:¬((i:Int)<(v.length:Int)):=auz
   cases hF
   repeat first|refine cg ?_|simp -dsimp[h8,q9,z10]
   refine zU hq
 ·intro _f_f74 _f_f77 ih_f74 ih_f77 p v59 out61 i62 o hF
  refine ZJ rfl fun Q hq hk hs=> ?_
  have b1:=hk 1
  simp -dsimp at b1
  have b9:=hk 9
  simp -dsimp at b9
  have d0:=hs 0 _ rfl
  simp -dsimp[zS]at d0
  have d2:=hs 2 _ rfl
  simp -dsimp[zS]at d2
  clear hk hs
  refine eN ?_
  repeat first|refine cg ?_|simp -dsimp
  revert hF;refine aS ?_ ?_<;>intro h63 q64 hF
  ·have z65:((i62:Int)<(v59.length:Int)):=auz
   repeat first|refine cg ?_|simp -dsimp[h63,z65]
   revert hF;refine aN ?_ ?_<;>intro h66 q67 hF
   ·have z68:¬((i62:Int)=0):=auz
    repeat first|refine cg ?_|simp -dsimp[h63,z65,h66,q67,z68]
    revert hF;refine aN ?_ ?_<;>intro h69 q70 hF
    ·repeat first|refine cg ?_|simp -dsimp[h63,z65,h66,q67,z68,h69,q70]
     refine zL [95] [(0,0),(0,0),(0,0),(0,0),(0,0),(0,0),(0,0),(0,0),(0,0),(0,0),(0,0),(0,1),(1,1)] [1,1,1,1,1,1,1,1,1,1,1,1,1] follows ?_
     have hF:=ob hF;obtain⟨x71,e72,hF⟩:=hF
     have le72:=ZD e72
     have hF:=ob hF;obtain⟨x73,e74,hF⟩:=hF
     have le74:=ZD e74
     repeat first|refine cg ?_|simp -dsimp[↓e72,↓e74]
     have hF:=ob hF;obtain⟨v75,e76,hF⟩:=hF
     refine((ih_f74 out61 x71 x73 v75 e76)).ego (pl [0]) (by simp) (by simp) (ZBE _ rfl (by decide)) (by intro i hi hi';simp at hi hi';first|omega|(subst hi';simp[pl])) (by simp[h63,z65,h66,q67,z68,h69,q70,↓e72,↓e74]) (by simp[h63,z65,h66,q67,z68,h69,q70,↓e72,↓e74]) ?_
     have w77:i64.wrap ((i62:Int)+1)=(i62:Int)+1:=ZF (by omega) (by omega)
     repeat first|refine cg ?_|simp -dsimp[w77]
     refine zT ((ih_f77 p v59 v75 (i62+1) o hF) _ rfl _ hq)
    ·cases hF
     repeat first|refine cg ?_|simp -dsimp[h63,z65,h66,q67,z68,h69,q70]
     refine zU hq
   ·have z68:((i62:Int)=0):=auz
    repeat first|refine cg ?_|simp -dsimp[h63,z65,eq_true h66,eq_true q67,eq_true z68]
    refine zL [95] [(0,0),(0,0),(0,0),(0,0),(0,0),(0,0),(0,0),(0,0),(0,0),(0,0),(0,0),(0,1),(1,1)] [1,1,1,1,1,1,1,1,1,1,1,1,1] follows ?_
    have hF:=ob hF;obtain⟨x78,e79,hF⟩:=hF
    have le79:=ZD e79
    have hF:=ob hF;obtain⟨x80,e81,hF⟩:=hF
    have le81:=ZD e81
    repeat first|refine cg ?_|simp -dsimp[↓e79,↓e81]
    have hF:=ob hF;obtain⟨v82,e83,hF⟩:=hF
    refine((ih_f74 out61 x78 x80 v82 e83)).ego (pl [0]) (by simp) (by simp) (ZBE _ rfl (by decide)) (by intro i hi hi';simp at hi hi';first|omega|(subst hi';simp[pl])) (by simp[h63,z65,eq_true h66,eq_true q67,eq_true z68,↓e79,↓e81]) (by simp[h63,z65,eq_true h66,eq_true q67,eq_true z68,↓e79,↓e81]) ?_
    have w84:i64.wrap ((i62:Int)+1)=(i62:Int)+1:=ZF (by omega) (by omega)
    repeat first|refine cg ?_|simp -dsimp[w84]
    refine zT ((ih_f77 p v59 v82 (i62+1) o hF) _ rfl _ hq)
  ·have z65:¬((i62:Int)<(v59.length:Int)):=auz
   cases hF
   repeat first|refine cg ?_|simp -dsimp[h63,q64,z65]
   refine zU hq
theorem CC.f78 (list:List VarType)(n:Int):(∀(i:Nat) (o:Lo Int Unit),F.f78 list n i=some o->∀(c:Code),Zb [1,0,1,0,0] (ZK Tryz.f122)=some c->∀(Q:Exit->ASt->Prop),o.post (fun r=>∀st,ZA2 zQ Tryz.f122 (fun r' _=>r'.le (li r)) .ret st->Q .ret st) (fun s=>Q (.exit 0) ⟨[],[]⟩)->ALoopU zQ B 0 20 (hold c .mk) ⟨[(0,am yK list),(1,li n),(5,li (i:Int))],[]⟩ (hold Q .mk)):=by
 refine F.f78.partial_correctness list n
  _
  ?_
 ·intro _f_f78 ih_f78 i o hF
  refine ZJ rfl fun Q hq hk hs=> ?_
  have b0:=hk 0
  simp -dsimp at b0
  clear hk hs
  refine eN ?_
  repeat first|refine cg ?_|simp -dsimp
  revert hF;refine aS ?_ ?_<;>intro h1 q2 hF
  ·have z3:((i:Int)<(list.length:Int)):=auz
   have hF:=ob hF;obtain⟨x,e4,hF⟩:=hF
   have le4:=ZD e4
   repeat first|refine cg ?_|simp -dsimp[h1,z3,↓e4]
   revert hF;refine aS ?_ ?_<;>intro h5 q6 hF
   ·cases hF
    repeat first|refine cg ?_|simp -dsimp[h5]
    refine lG _ (gR _) (hq _ ?_)
    repeat first|refine cg ?_|simp -dsimp
   ·have w7:i64.wrap ((i:Int)+1)=(i:Int)+1:=ZF (by omega) (by omega)
    repeat first|refine cg ?_|simp -dsimp[q6,w7]
    refine zT ((ih_f78 (i+1) o hF) _ rfl _ hq)
  ·have z3:¬((i:Int)<(list.length:Int)):=auz
   cases hF
   repeat first|refine cg ?_|simp -dsimp[h1,q2,z3]
   refine zU hq
theorem C.f79 (list:List VarType)(n:Int)(r:Int)(hF:F.f79 list n=some r):PureCall zQ B 122 [am yK list,li n] (li r):=by
 unfold F.f79 at hF
 refine zJ func122 rfl ntmps122 ?_
 repeat first|refine cg ?_|simp -dsimp
 have hF:=ob hF;obtain⟨o',ho8,hF⟩:=hF
 refine zV (((CC.f78 B hB1 hB2 list n) 0 o' ho8) _ rfl _ ?_)
 rcases o' with r0|sx
 ·dsimp only at hF
  cases hF
  intro st h
  simpa using h
 ·dsimp only at hF
  cases hF
  repeat first|refine cg ?_|simp -dsimp
theorem CC.f80 (a:List VarType)(b:List VarType):(∀(i:Nat) (o:Lo Bool Unit),F.f80 a b i=some o->∀(c:Code),Zb [1,0,1,0,0] (ZK Tryz.f148)=some c->∀(Q:Exit->ASt->Prop),o.post (fun r=>∀st,ZA2 zQ Tryz.f148 (fun r' _=>r'.le (.lit (.bool r))) .ret st->Q .ret st) (fun s=>Q (.exit 0) ⟨[(0,am yK a),(1,am yK b)],[]⟩)->ALoopU zQ B 0 40 (hold c .mk) ⟨[(0,am yK a),(1,am yK b),(5,li (i:Int))],[]⟩ (hold Q .mk)):=by
 refine F.f80.partial_correctness a b
  _
  ?_
 ·intro _f_f80 ih_f80 i o hF
  refine ZJ rfl fun Q hq hk hs=> ?_
  have b0:=hk 0
  simp -dsimp at b0
  have b1:=hk 1
  simp -dsimp at b1
  clear hk hs
  refine eN ?_
  repeat first|refine cg ?_|simp -dsimp
  revert hF;refine aS ?_ ?_<;>intro h1 q2 hF
  ·have z3:((i:Int)<(a.length:Int)):=auz
   have hF:=ob hF;obtain⟨x,e4,hF⟩:=hF
   have le4:=ZD e4
   repeat first|refine cg ?_|simp -dsimp[h1,z3,↓e4]
   have hF:=ob hF;obtain⟨v,e5,hF⟩:=hF
   refine((C.f79 B hB1 hB2 b x.var v e5)).goI ?_
   repeat first|refine cg ?_|simp -dsimp[↓e4]
   refine zM follows ?_
   repeat first|refine cg ?_|simp -dsimp[↓e4]
   revert hF;refine aN ?_ ?_<;>intro h6 q7 hF
   ·have hF:=ob hF;obtain⟨x8,e9a,hF⟩:=hF
    have e9a:=ZO e9a;obtain⟨ne9,e9⟩:=e9a
    have le9:=ZD e9
    repeat first|refine cg ?_|simp -dsimp[↓e4,h6,q7,↓e9]
    revert hF;refine aN (fun h10 q11 hF=> ?_) (fun h10 q11 hF=> ?_)
    ·cases hF
     repeat first|refine cg ?_|simp -dsimp[↓e4,↓e9,h10,q11]
     refine lG _ (gR _) (hq _ ?_)
     repeat first|refine cg ?_|simp -dsimp[↓e4,↓e9]
    ·have w12:i64.wrap ((i:Int)+1)=(i:Int)+1:=ZF (by omega) (by omega)
     repeat first|refine cg ?_|simp -dsimp[↓e4,↓e9,w12]
     refine zT ((ih_f80 (i+1) o hF) _ rfl _ hq)
   ·cases hF
    repeat first|refine cg ?_|simp -dsimp[↓e4,h6,q7]
    refine lG _ (gR _) (hq _ ?_)
    repeat first|refine cg ?_|simp -dsimp[↓e4]
  ·have z3:¬((i:Int)<(a.length:Int)):=auz
   cases hF
   repeat first|refine cg ?_|simp -dsimp[h1,q2,z3]
   refine zU hq
theorem C.f81 (a:List VarType)(b:List VarType)(r:Bool)(hF:F.f81 a b=some r):PureCall zQ B 148 [am yK a,am yK b] (.lit (.bool r)):=by
 unfold F.f81 at hF
 refine zJ func148 rfl ntmps148 ?_
 repeat first|refine cg ?_|simp -dsimp
 have hF:=ob hF;obtain⟨o',ho13,hF⟩:=hF
 refine zV (((CC.f80 B hB1 hB2 a b) 0 o' ho13) _ rfl _ ?_)
 rcases o' with r0|sx
 ·dsimp only at hF
  cases hF
  intro st h
  simpa using h
 ·dsimp only at hF
  cases hF
  repeat first|refine cg ?_|simp -dsimp
  all_goals(try first|omega|rfl)
theorem CC.f82 (v26:List VarType):(∀(i28:Nat) (o:Lo Bool Unit),F.f82 v26 i28=some o->∀(c:Code),Zb [1,1,1,1,1,0,1,0,0] (ZK Tryz.f121)=some c->∀(Q:Exit->ASt->Prop),o.post (fun r=>∀st,ZA2 zQ Tryz.f121 (fun r' _=>r'.le (.lit (.bool r))) .ret st->Q .ret st) (fun s=>Q (.exit 2) ⟨[],[]⟩)->ALoopU zQ B 0 70 (hold c .mk) ⟨[(9,.own 2 (zA (α:=VarType) v26)),(10,li (i28:Int))],[.dead,.dead,.elems 3 (zB yK v26)]⟩ (hold Q .mk)):=by
 refine F.f82.partial_correctness v26
  _
  ?_
 ·intro _f_f82 ih_f82 i28 o hF
  refine ZJ rfl fun Q hq hk hs=> ?_
  have d2:=hs 2 _ rfl
  simp -dsimp[zS]at d2
  clear hk hs
  refine eN ?_
  repeat first|refine cg ?_|simp -dsimp
  revert hF;refine aS ?_ ?_<;>intro h29 q30 hF
  ·have z31:((i28:Int)<(v26.length:Int)):=auz
   have hF:=ob hF;obtain⟨x32,e33,hF⟩:=hF
   have le33:=ZD e33
   repeat first|refine cg ?_|simp -dsimp[h29,z31,↓e33]
   have hF:=ob hF;obtain⟨v34,e35,hF⟩:=hF
   refine((C.f79 B hB1 hB2 v26 x32.var v34 e35)).lend (by simp_all) (by simp -dsimp) ?_
   repeat first|refine cg ?_|simp -dsimp
   revert hF;refine aN ?_ ?_<;>intro h36 q37 hF
   ·cases hF
    repeat first|refine cg ?_|simp -dsimp[h36,q37]
    refine lG _ (gR _) (hq _ ?_)
    repeat first|refine cg ?_|simp -dsimp
   ·have w38:i64.wrap ((i28:Int)+1)=(i28:Int)+1:=ZF (by omega) (by omega)
    repeat first|refine cg ?_|simp -dsimp[w38]
    refine zT ((ih_f82 (i28+1) o hF) _ rfl _ hq)
  ·have z31:¬((i28:Int)<(v26.length:Int)):=auz
   cases hF
   repeat first|refine cg ?_|simp -dsimp[h29,q30,z31]
   refine zU hq
theorem CC.f83 (w:List yC):(∀(t:Ty) (p:Pattern) (r:Bool),F.f83 w t p=some r->PureCall zQ B 121 [am yD w,.agg [li t.data,li t.index],.agg [li p.op,li p.ctor,li p.n,li p.m,li p.var,am yJ p.kids]] (.lit (.bool r)))/\
  (∀(t:Ty) (p:Pattern) (v:List Ty) (i:Nat) (o:Lo Bool Unit),F.f84 w t p v i=some o->∀(c:Code),Zb [1,1,0,1,0,0] (ZK Tryz.f121)=some c->∀(Q:Exit->ASt->Prop),o.post (fun r=>∀st,ZA2 zQ Tryz.f121 (fun r' _=>r'.le (.lit (.bool r))) .ret st->Q .ret st) (fun s=>Q (.exit 0) ⟨[(0,am yD w),(4,.ptr 0 0),(5,.ptr 1 0)],[.cells [li t.data,li t.index],.cells [li p.op,li p.ctor,li p.n,li p.m,li p.var,am yJ p.kids]]⟩)->ALoopU zQ B 0 70 (hold c .mk) ⟨[(0,am yD w),(4,.ptr 0 0),(5,.ptr 1 0),(7,am zX v),(8,li (i:Int))],[.cells [li t.data,li t.index],.cells [li p.op,li p.ctor,li p.n,li p.m,li p.var,am yJ p.kids]]⟩ (hold Q .mk)):=by
 refine F.f83.mutual_partial_correctness w
  _ _
  ?_ ?_
 ·intro _f_f84 ih_f84 t p r hF
  refine zJ func121 rfl ntmps121 ?_
  repeat first|refine cg ?_|simp -dsimp
  have hF:=ob hF;obtain⟨v,e1,hF⟩:=hF
  refine((C.f69 B hB1 hB2 w t p v e1)).goI ?_
  repeat first|refine cg ?_|simp -dsimp
  have hF:=ob hF;obtain⟨o',ho13,hF⟩:=hF
  refine zV ((ih_f84 t p v 0 o' ho13) _ rfl _ ?_)
  rcases o' with r042|sx
  ·dsimp only at hF
   cases hF
   intro st h
   simpa using h
  ·dsimp only at hF
   repeat first|refine cg ?_|simp -dsimp
   revert hF;refine aS ?_ ?_<;>intro h14 q15 hF
   ·repeat first|refine cg ?_|simp -dsimp[h14]
    refine zL [95,148] [(0,0),(0,0),(0,0),(0,0),(0,0),(0,0),(0,3),(0,1),(0,1),(0,1),(0,1),(0,1),(0,1),(0,3),(0,3),(3,3)] [1,1,1,1,1,1,1,1,2,0,2,0,0,1,1,1] follows ?_
    have hF:=ob hF;obtain⟨x16,e17,hF⟩:=hF
    have le17:=ZD e17
    repeat first|refine cg ?_|simp -dsimp[↓e17]
    have hF:=ob hF;obtain⟨v18,e19,hF⟩:=hF
    refine yI 0 3 (by simp) ?_
    repeat first|refine cg ?_|simp -dsimp
    refine(((CC.f74 B hB1 hB2 w).1 [] t x16 v18 e19)).ego (pl [2]) (by simp) (by simp) (ZBE _ rfl (by decide)) (by intro i hi hi';simp at hi hi';first|omega|(subst hi';simp[pl])) (by simp_all) (by simp_all) ?_
    have hF:=ob hF;obtain⟨x20,e21,hF⟩:=hF
    have le21:=ZD e21
    repeat first|refine cg ?_|simp -dsimp[↓e21]
    have hF:=ob hF;obtain⟨v22,e23,hF⟩:=hF
    refine yI 0 3 (by simp) ?_
    repeat first|refine cg ?_|simp -dsimp
    refine(((CC.f74 B hB1 hB2 w).1 [] t x20 v22 e23)).ego (pl [3]) (by simp) (by simp) (ZBE _ rfl (by decide)) (by intro i hi hi';simp at hi hi';first|omega|(subst hi';simp[pl])) (by simp_all) (by simp_all) ?_
    repeat first|refine cg ?_|simp -dsimp
    have hF:=ob hF;obtain⟨v24,e25,hF⟩:=hF
    refine((C.f81 B hB1 hB2 v18 v22 v24 e25)).elend (by simp_all) (by simp -dsimp) ?_
    cases hF
    repeat first|refine cg ?_|simp -dsimp
   ·repeat first|refine cg ?_|simp -dsimp[q15]
    have hF:=ob hF;obtain⟨v26,e27,hF⟩:=hF
    refine yF 0 3 (by simp) ?_
    repeat first|refine cg ?_|simp -dsimp
    refine(((CC.f74 B hB1 hB2 w).1 [] t p v26 e27)).go (pl [2]) (by simp) (by simp) (ZBE _ rfl (by decide)) (by intro i hi hi';simp at hi hi';first|omega|(subst hi';simp[pl])) (by simp_all) (by simp_all) ?_
    repeat first|refine cg ?_|simp -dsimp
    have hF:=ob hF;obtain⟨o'40,ho39,hF⟩:=hF
    refine zV (((CC.f82 B hB1 hB2 v26) 0 o'40 ho39) _ rfl _ ?_)
    rcases o'40 with r0|sx41
    ·dsimp only at hF
     cases hF
     intro st h
     simpa using h
    ·dsimp only at hF
     cases hF
     repeat first|refine cg ?_|simp -dsimp
 ·intro _f_f83 _f_f84 ih_f83 ih_f84 t p v i o hF
  refine ZJ rfl fun Q hq hk hs=> ?_
  have b0:=hk 0
  simp -dsimp at b0
  have b7:=hk 7
  simp -dsimp at b7
  have d1:=hs 1 _ rfl
  simp -dsimp[zS]at d1
  clear hk hs
  refine eN ?_
  repeat first|refine cg ?_|simp -dsimp
  revert hF;refine aS ?_ ?_<;>intro h2 q3 hF
  ·have z4:((i:Int)<(v.length:Int)):=auz
   repeat first|refine cg ?_|simp -dsimp[h2,z4]
   refine zM follows ?_
   have hF:=ob hF;obtain⟨x,e5,hF⟩:=hF
   have le5:=ZD e5
   have hF:=ob hF;obtain⟨x6,e7,hF⟩:=hF
   have le7:=ZD e7
   repeat first|refine cg ?_|simp -dsimp[↓e5,↓e7]
   have hF:=ob hF;obtain⟨v8,e9,hF⟩:=hF
   refine((ih_f83 x x6 v8 e9)).pgoW (by simp_all) (by simp) ?_
   repeat first|refine cg ?_|simp -dsimp
   revert hF;refine aN (fun h10 q11 hF=> ?_) (fun h10 q11 hF=> ?_)
   ·cases hF
    repeat first|refine cg ?_|simp -dsimp[h10,q11]
    refine lG _ (gR _) (hq _ ?_)
    repeat first|refine cg ?_|simp -dsimp
   ·have w12:i64.wrap ((i:Int)+1)=(i:Int)+1:=ZF (by omega) (by omega)
    repeat first|refine cg ?_|simp -dsimp[w12]
    refine zT ((ih_f84 t p v (i+1) o hF) _ rfl _ hq)
  ·have z4:¬((i:Int)<(v.length:Int)):=auz
   cases hF
   repeat first|refine cg ?_|simp -dsimp[h2,q3,z4]
   refine zU hq
theorem C.f85 (w:List yC)(t:Ty)(p:Pattern)(r:Bool)(hF:F.f85 w t p=some r):PureCall zQ B 93 [am yD w,.agg [li t.data,li t.index],.agg [li p.op,li p.ctor,li p.n,li p.m,li p.var,am yJ p.kids]] (.lit (.bool r)):=by
 unfold F.f85 at hF
 refine zJ func93 rfl ntmps93 ?_
 repeat first|refine cg ?_|simp -dsimp
 have hF:=ob hF;obtain⟨v,e1,hF⟩:=hF
 refine(((CC.f70 B hB1 hB2 w).1 t p 10 v e1)).goI ?_
 repeat first|refine cg ?_|simp -dsimp
 revert hF;refine aS (fun h2 q3 hF=> ?_) (fun h2 q3 hF=> ?_)
 ·repeat first|refine cg ?_|simp -dsimp[h2]
  have hF:=ob hF;obtain⟨v4,e5,hF⟩:=hF
  refine(((CC.f72 B hB1 hB2).1 p 60 v4 e5)).goI ?_
  repeat first|refine cg ?_|simp -dsimp[h2]
  revert hF;refine aS ?_ ?_<;>intro h6 q7 hF
  ·repeat first|refine cg ?_|simp -dsimp[h2,h6]
   have hF:=ob hF;obtain⟨v8,e9,hF⟩:=hF
   refine(((CC.f83 B hB1 hB2 w).1 t p v8 e9)).goI ?_
   cases hF
   repeat first|refine cg ?_|simp -dsimp[h2,h6]
  ·cases hF
   repeat first|refine cg ?_|simp -dsimp[h2,h6,q7]
 ·cases hF
  repeat first|refine cg ?_|simp -dsimp[h2,q3]
theorem C.f86 (r':ZB)(w:List yC)(t:Ty)(r:Pattern×ZB)(hF:F.f86 r' w t=some r):MutCall zQ B 165 [am cU r'.f0,li r'.f1] [.ptr 0 0,am yD w,.agg [li t.data,li t.index]] (.agg [li r.1.op,li r.1.ctor,li r.1.n,li r.1.m,li r.1.var,am yJ r.1.kids]) [am cU r.2.f0,li r.2.f1]:=by
 unfold F.f86 at hF
 refine zK func165 rfl ntmps165 ?_
 repeat first|refine cg ?_|simp -dsimp
 refine ADraw.effL [(5,12),(6,12),(7,12),(8,12)] 12 [42,185,186] [(0,3),(0,2),(0,2),(0,2),(0,1),(0,6),(0,6),(0,6),(0,6),(4,5),(4,5),(4,6),(0,6),(0,6),(6,6)] [1,1,1,2,1,1,1,1,1,1,1,1,1,1,1] follows (by kernel_rfl) (by kernel_rfl) (by kernel_rfl) (by kernel_rfl) (by intro d hd;cases hd;rfl) (by intro t i h k;cases h;cases k;rfl) ?_
 repeat first|refine cg ?_|simp -dsimp
 have hF:=ob hF;obtain⟨v,e1,hF⟩:=hF
 refine yH ?_ ((C.f54 B hB1 hB2 r' [3,2,4,1] v e1)).ent
 repeat first|refine cg ?_|simp -dsimp
 refine((C.f54 B hB1 hB2 r' [3,2,4,1] v e1)).ego 0 rfl (by simp) (by simp) (by simp) ?_
 repeat first|refine cg ?_|simp -dsimp
 have hF:=ob hF;obtain⟨v2,e3,hF⟩:=hF
 refine(((CC.f59 B hB1 hB2 w).1 v.2 t v.1 v2 e3)).ego 0 rfl (by simp) (by simp) (by simp) ?_
 repeat first|refine cg ?_|simp -dsimp
 have hF:=ob hF;obtain⟨v4,e5,hF⟩:=hF
 refine(((CC.f61 B hB1 hB2).1 v2.2 v2.1 0 v4 e5)).ego 0 rfl (by simp) (by simp) (by simp) ?_
 repeat first|refine cg ?_|simp -dsimp
 have hF:=ob hF;obtain⟨v6,e7,hF⟩:=hF
 refine((C.f85 B hB1 hB2 w t v4.1 v6 e7)).goI ?_
 repeat first|refine cg ?_|simp -dsimp
 revert hF;refine aN (fun h8 q9 hF=> ?_) (fun h8 q9 hF=> ?_)
 ·cases hF
  repeat first|refine cg ?_|simp -dsimp[h8,q9]
 ·cases hF
  repeat first|refine cg ?_|simp -dsimp
theorem CC.f87 (v:Pattern×ZB)(vars:List VarType):(∀(z:List Int) (z4:Int) (z5:Int) (z6:Int) (z7:Int) (i:Nat) (o:(List Int)×Int×Int×Int×Int),F.f87 v z z4 z5 z6 z7 vars i=some o->∀(c:Code),Zb [1,1,1,0,1,0,0] (ZK Tryz.f136)=some c->∀(Q:Exit->ASt->Prop),(Q (.exit 0) ⟨[(6,.ptr 2 0),(7,.ptr 3 0)],[.cells [am cU o.1,li o.2.1],.dead,.cells [li 0,li 0,li 0,li 0,li 0,.lit (.slice none 0 0),li 0,li 0,li 0],.cells [li v.1.op,li v.1.ctor,li v.1.n,li v.1.m,li v.1.var,am yJ v.1.kids,li o.2.2.1,li o.2.2.2.1,li o.2.2.2.2]]⟩)->ALoopU zQ B 1 51 (hold c .mk) ⟨[(0,.ptr 0 0),(6,.ptr 2 0),(7,.ptr 3 0),(8,am yK vars),(9,li (i:Int))],[.cells [am cU z,li z4],.dead,.cells [li 0,li 0,li 0,li 0,li 0,.lit (.slice none 0 0),li 0,li 0,li 0],.cells [li v.1.op,li v.1.ctor,li v.1.n,li v.1.m,li v.1.var,am yJ v.1.kids,li z5,li z6,li z7],.dead]⟩ (hold Q .mk)):=by
 refine F.f87.partial_correctness v vars
  _
  ?_
 ·intro _f_f87 ih_f87 z z4 z5 z6 z7 i o hF
  refine ZJ rfl fun Q hq hk hs=> ?_
  have b8:=hk 8
  simp -dsimp at b8
  have d0:=hs 0 _ rfl
  simp -dsimp[zS]at d0
  have d3:=hs 3 _ rfl
  simp -dsimp[zS]at d3
  clear hk hs
  refine eN ?_
  repeat first|refine cg ?_|simp -dsimp
  revert hF;refine aS ?_ ?_<;>intro h8 q9 hF
  ·have z10:((i:Int)<(vars.length:Int)):=auz
   have hF:=ob hF;obtain⟨x,e11,hF⟩:=hF
   have le11:=ZD e11
   repeat first|refine cg ?_|simp -dsimp[h8,z10,↓e11]
   revert hF;refine aS ?_ ?_<;>intro h12 q13 hF
   ·repeat first|refine cg ?_|simp -dsimp[h12]
    have hF:=ob hF;obtain⟨v14,e15,hF⟩:=hF
    refine((C.f1 B hB1 hB2 (⟨z,z4⟩:ZB) 2 v14 e15)).go 0 rfl (by simp[h8,z10,↓e11,h12]) (by simp) (by simp[h8,z10,↓e11,h12]) ?_
    repeat first|refine cg ?_|simp -dsimp[h8,z10,↓e11,h12]
    revert hF;refine aS ?_ ?_<;>intro h16 q17 hF
    ·repeat first|refine cg ?_|simp -dsimp[h8,z10,↓e11,h12,h16]
     refine zL [41] [(0,0),(0,3),(1,2),(0,2),(0,2),(0,2),(0,2),(0,2),(0,1),(0,3),(2,2),(2,2),(0,3)] [1,1,1,1,1,0,0,0,1,1,1,1,1] follows ?_
     repeat first|refine cg ?_|simp -dsimp
     have hF:=ob hF;obtain⟨v18,e19,hF⟩:=hF
     refine((C.f1 B hB1 hB2 v14.2 2 v18 e19)).ego 0 rfl (by simp[h8,z10,↓e11,h12,h16]) (by simp) (by simp[h8,z10,↓e11,h12,h16]) ?_
     repeat first|refine cg ?_|simp -dsimp
     have hF:=ob hF;obtain⟨v20,e21,hF⟩:=hF
     refine((C.f1 B hB1 hB2 v18.2 10 v20 e21)).ego 0 rfl (by simp[h8,z10,↓e11,h12,h16]) (by simp) (by simp[h8,z10,↓e11,h12,h16]) ?_
     have w22:i64.wrap ((i:Int)+1)=(i:Int)+1:=ZF (by omega) (by omega)
     repeat first|refine cg ?_|simp -dsimp[h8,z10,↓e11,h12,h16,w22]
     refine zT ((ih_f87 v20.2.f0 v20.2.f1 (i64.wrap (1+v18.1)) x.var v20.1 (i+1) o hF) _ rfl _ hq)
    ·have w23:i64.wrap ((i:Int)+1)=(i:Int)+1:=ZF (by omega) (by omega)
     repeat first|refine cg ?_|simp -dsimp[h8,z10,↓e11,h12,h16,q17,w23]
     refine zT ((ih_f87 v14.2.f0 v14.2.f1 z5 z6 z7 (i+1) o hF) _ rfl _ hq)
   ·have w24:i64.wrap ((i:Int)+1)=(i:Int)+1:=ZF (by omega) (by omega)
    repeat first|refine cg ?_|simp -dsimp[q13,w24]
    refine zT ((ih_f87 z z4 z5 z6 z7 (i+1) o hF) _ rfl _ hq)
  ·have z10:¬((i:Int)<(vars.length:Int)):=auz
   cases hF
   repeat first|refine cg ?_|simp -dsimp[h8,q9,z10]
   refine zU hq
theorem C.f88 (r':ZB)(w:List yC)(t:Ty)(r:Clause×ZB)(hF:F.f88 r' w t=some r):MutCall zQ B 136 [am cU r'.f0,li r'.f1] [.ptr 0 0,am yD w,.agg [li t.data,li t.index]] (.agg [li r.1.pat.op,li r.1.pat.ctor,li r.1.pat.n,li r.1.pat.m,li r.1.pat.var,am yJ r.1.pat.kids,li r.1.guard.op,li r.1.guard.var,li r.1.guard.n]) [am cU r.2.f0,li r.2.f1]:=by
 unfold F.f88 at hF
 refine zK func136 rfl ntmps136 ?_
 repeat first|refine cg ?_|simp -dsimp
 have hF:=ob hF;obtain⟨v,e1,hF⟩:=hF
 refine((C.f86 B hB1 hB2 r' w t v e1)).go 0 rfl (by simp) (by simp) (by simp) ?_
 repeat first|refine cg ?_|simp -dsimp
 have hF:=ob hF;obtain⟨v2,e3,hF⟩:=hF
 refine yF 0 3 (by simp) ?_
 repeat first|refine cg ?_|simp -dsimp
 refine(((CC.f74 B hB1 hB2 w).1 [] t v.1 v2 e3)).go (pl [4]) (by simp) (by simp) (ZBE _ rfl (by decide)) (by intro i hi hi';simp at hi hi';first|omega|(subst hi';simp[pl])) (by simp) (by simp) ?_
 repeat first|refine cg ?_|simp -dsimp
 have hF:=ob hF;obtain⟨o',ho25,hF⟩:=hF
 refine zW ⟨[(0,.ptr 0 0),(6,.ptr 2 0),(7,.ptr 3 0),(8,.arr (zB yK v2)),(9,.lit (.int .i64 0))],[.cells [.arr (zB cU v.2.f0),.lit (.int .i64 v.2.f1)],.dead,.cells [.lit (.int .i64 0),.lit (.int .i64 0),.lit (.int .i64 0),.lit (.int .i64 0),.lit (.int .i64 0),.lit (.slice none 0 0),.lit (.int .i64 0),.lit (.int .i64 0),.lit (.int .i64 0)],.cells [.lit (.int .i64 v.1.op),.lit (.int .i64 v.1.ctor),.lit (.int .i64 v.1.n),.lit (.int .i64 v.1.m),.lit (.int .i64 v.1.var),.arr (zB yJ v.1.kids),.lit (.int .i64 0),.lit (.int .i64 0),.lit (.int .i64 0)],.dead]⟩ (by refine zY (zZ 8 (l:=4) (n:=zA (α:=VarType) v2) (sz:=3) (es:=zB yK v2) (by simp) (by simp) (by simp) (by simp)) ?_;exact(gT (by simp) (by simp -dsimp))) ?_
 refine((CC.f87 B hB1 hB2 v v2) v.2.f0 v.2.f1 0 0 0 0 o' ho25) _ rfl _ ?_
 cases hF
 repeat first|refine cg ?_|simp -dsimp
theorem CC.spec_l4List__o0_l1 (w:List yC)(t:Ty):(∀(z:List Int) (z2:Int) (out:List Clause) (i:Int) (o:(List Int)×Int×(List Clause)),F.f89 w t z z2 out i=some o->∀(c:Code),Zb [1,1,0,1,0,0] (ZK Tryz.f105)=some c->∀(Q:Exit->ASt->Prop),(Q (.exit 0) ⟨[(7,.own 2 (zA (α:=Clause) o.2.2))],[.cells [am cU o.1,li o.2.1],.dead,.elems 9 (zB yN o.2.2)]⟩)->ALoopU zQ B 1 25 (hold c .mk) ⟨[(0,.ptr 0 0),(1,am yD w),(5,.ptr 1 0),(7,.own 2 (zA (α:=Clause) out)),(8,li i)],[.cells [am cU z,li z2],.cells [li t.data,li t.index],.elems 9 (zB yN out)]⟩ (hold Q .mk)):=by
 refine F.f89.partial_correctness w t
  _
  ?_
 ·intro _f_spec_l4List__o0_l1 ih_spec_l4List__o0_l1 z z2 out i o hF
  refine ZJ rfl fun Q hq hk hs=> ?_
  have b1:=hk 1
  simp -dsimp at b1
  have d0:=hs 0 _ rfl
  simp -dsimp[zS]at d0
  have d2:=hs 2 _ rfl
  simp -dsimp[zS]at d2
  clear hk hs
  refine eN ?_
  repeat first|refine cg ?_|simp -dsimp
  revert hF;refine aS ?_ ?_<;>intro h3 q4 hF
  ·repeat first|refine cg ?_|simp -dsimp[h3]
   have hF:=ob hF;obtain⟨v5,e6,hF⟩:=hF
   refine((C.f88 B hB1 hB2 (⟨z,z2⟩:ZB) w t v5 e6)).go 0 rfl (by simp_all) (by simp) (by simp_all) ?_
   have hF:=oc hF;obtain⟨c7,hF⟩:=hF
   repeat first|refine cg ?_|simp -dsimp
   refine zT ((ih_spec_l4List__o0_l1 v5.2.f0 v5.2.f1 (out++[v5.1]) (i64.wrap (i-1)) o hF) _ rfl _ hq)
  ·cases hF
   repeat first|refine cg ?_|simp -dsimp[q4]
   refine zU hq
theorem C.spec_l4List__o0 (r':ZB)(w:List yC)(t:Ty)(r:(List Clause)×ZB)(hF:F.f90 r' w t=some r):BCall zQ B 105 [.cells [am cU r'.f0,li r'.f1]] [.ptr 0 0,am yD w,.agg [li t.data,li t.index]] (.own 1 (zA (α:=Clause) r.1)) [.cells [am cU r.2.f0,li r.2.f1],.elems 9 (zB yN r.1)]:=by
 unfold F.f90 at hF
 refine yL (τ1:=[.cells [.arr (zB cU r.2.f0),.lit (.int .i64 r.2.f1)]]) (ys:=[.own 1 (zA (α:=Clause) r.1)]) (news:=[(9,zB yN r.1)]) func105 (by kernel_rfl) rfl ntmps105 (by simp) rfl rfl (by simp) (by simp) (by simp) (by simp) (by simp) (by simp) (gR _) ?_
 repeat first|refine cg ?_|simp -dsimp
 have hF:=ob hF;obtain⟨v,e1,hF⟩:=hF
 refine yE ?_ ((C.f54 B hB1 hB2 r' [3,2,4,5,1,0] v e1)).ent
 repeat first|refine cg ?_|simp -dsimp
 refine((C.f54 B hB1 hB2 r' [3,2,4,5,1,0] v e1)).go 0 rfl (by simp) (by simp) (by simp) ?_
 repeat first|refine cg ?_|simp -dsimp
 have hF:=ob hF;obtain⟨o',ho8,hF⟩:=hF
 refine zV (((CC.spec_l4List__o0_l1 B hB1 hB2 w t) v.2.f0 v.2.f1 [] v.1 o' ho8) _ rfl _ ?_)
 cases hF
 repeat first|refine cg ?_|simp -dsimp
 all_goals(try first|omega|rfl|(simp;done)|(simp only[zC,zD]at*;omega)|simp)
theorem C.spec_l4Typed__o2 (r':ZB)(r:(List yC)×Ty×(List Clause)×Vl.Value×ZB)(hF:F.f91 r'=some r):BCall zQ B 72 [.cells [am cU r'.f0,li r'.f1]] [.ptr 0 0] (.tup [am yD r.1,.agg [li r.2.1.data,li r.2.1.index],.own 1 (zA (α:=Clause) r.2.2.1),.agg [li r.2.2.2.1.ctor,li r.2.2.2.1.n,am Vl.Value.c r.2.2.2.1.kids]]) [.cells [am cU r.2.2.2.2.f0,li r.2.2.2.2.f1],.elems 9 (zB yN r.2.2.1)]:=by
 unfold F.f91 at hF
 refine yL (τ1:=[.cells [.arr (zB cU r.2.2.2.2.f0),.lit (.int .i64 r.2.2.2.2.f1)]]) (ys:=[.arr (zB yD r.1),.agg [.lit (.int .i64 r.2.1.data),.lit (.int .i64 r.2.1.index)],.own 1 (zA (α:=Clause) r.2.2.1),.agg [.lit (.int .i64 r.2.2.2.1.ctor),.lit (.int .i64 r.2.2.2.1.n),.arr (zB Vl.Value.c r.2.2.2.1.kids)]]) (news:=[(9,zB yN r.2.2.1)]) func72 (by kernel_rfl) rfl ntmps72 (by simp) rfl rfl (by simp) (by simp) (by simp) (by simp) (by simp) (by simp) (gR _) ?_
 repeat first|refine cg ?_|simp -dsimp
 have hF:=ob hF;obtain⟨v,e1,hF⟩:=hF
 refine((C.f58 B hB1 hB2 r' v e1)).go 0 rfl (by simp) (by simp) (by simp) ?_
 repeat first|refine cg ?_|simp -dsimp
 refine zL [105] [(0,1),(0,1),(0,0),(0,0),(0,0),(0,3),(0,2),(1,1),(0,3),(2,2),(0,3)] [1,2,1,1,1,1,2,1,1,1,1] follows ?_
 repeat first|refine cg ?_|simp -dsimp
 have hF:=ob hF;obtain⟨v2,e3,hF⟩:=hF
 refine((C.spec_l4List__o0 B hB1 hB2 v.2.2.2 v.1 v.2.1 v2 e3)).ego (pl [0,5]) (by simp) (by simp) (ZCS _ (by simp) (by decide)) (by intro i hi hi';simp at hi hi';have hi:i=1:=(by omega);rcases hi with rfl<;>simp[pl]) (by simp) (by simp) ?_
 cases hF
 repeat first|refine cg ?_|simp -dsimp
 all_goals(try first|omega|rfl|(simp;done)|(simp only[zC,zD]at*;omega)|simp)
theorem C.f92  (r:Pattern)(hF:F.f92=some r):PureCall zQ B 73 [] (.agg [li r.op,li r.ctor,li r.n,li r.m,li r.var,am yJ r.kids]):=by
 unfold F.f92 at hF
 refine zJ func73 rfl ntmps73 ?_
 cases hF
 repeat first|refine cg ?_|simp -dsimp
theorem C.f93 (r':ZB)(p:Pattern)(r:Pattern×ZB)(hF:F.f93 r' p=some r):MutCall zQ B 106 [am cU r'.f0,li r'.f1] [.ptr 0 0,.agg [li p.op,li p.ctor,li p.n,li p.m,li p.var,am yJ p.kids]] (.agg [li r.1.op,li r.1.ctor,li r.1.n,li r.1.m,li r.1.var,am yJ r.1.kids]) [am cU r.2.f0,li r.2.f1]:=by
 unfold F.f93 at hF
 refine zK func106 rfl ntmps106 ?_
 have hF:=oc hF;obtain⟨c1,hF⟩:=hF
 repeat first|refine cg ?_|simp -dsimp
 have hF:=ob hF;obtain⟨v,e2,hF⟩:=hF
 refine((C.f1 B hB1 hB2 r' 30 v e2)).go 0 rfl (by simp) (by simp) (by simp) ?_
 repeat first|refine cg ?_|simp -dsimp
 revert hF;refine aS ?_ ?_<;>intro h3 q4 hF
 ·repeat first|refine cg ?_|simp -dsimp[h3]
  have hF:=ob hF;obtain⟨v5,e6,hF⟩:=hF
  refine yE ?_ ((C.f54 B hB1 hB2 v.2 [0,7,1,2,5] v5 e6)).ent
  repeat first|refine cg ?_|simp -dsimp
  refine((C.f54 B hB1 hB2 v.2 [0,7,1,2,5] v5 e6)).go 0 rfl (by simp_all) (by simp) (by simp_all) ?_
  cases hF
  repeat first|refine cg ?_|simp -dsimp
 ·repeat first|refine cg ?_|simp -dsimp[q4]
  revert hF;refine aS ?_ ?_<;>intro h7 q8 hF
  ·repeat first|refine cg ?_|simp -dsimp[h7]
   have hF:=ob hF;obtain⟨v9,e10,hF⟩:=hF
   refine yE ?_ ((C.f54 B hB1 hB2 v.2 [6,(-1),1] v9 e10)).ent
   repeat first|refine cg ?_|simp -dsimp
   refine((C.f54 B hB1 hB2 v.2 [6,(-1),1] v9 e10)).go 0 rfl (by simp_all) (by simp) (by simp_all) ?_
   cases hF
   repeat first|refine cg ?_|simp -dsimp
  ·repeat first|refine cg ?_|simp -dsimp[q8]
   revert hF;refine aS ?_ ?_<;>intro h11 q12 hF
   ·repeat first|refine cg ?_|simp -dsimp[h11]
    have hF:=ob hF;obtain⟨v13,e14,hF⟩:=hF
    refine yE ?_ ((C.f54 B hB1 hB2 v.2 [9,(-1),1] v13 e14)).ent
    repeat first|refine cg ?_|simp -dsimp
    refine((C.f54 B hB1 hB2 v.2 [9,(-1),1] v13 e14)).go 0 rfl (by simp_all) (by simp) (by simp_all) ?_
    cases hF
    repeat first|refine cg ?_|simp -dsimp
   ·repeat first|refine cg ?_|simp -dsimp[q12]
    revert hF;refine aS ?_ ?_<;>intro h15 q16 hF
    ·have hF:=oc hF;obtain⟨c17,hF⟩:=hF
     cases hF
     repeat first|refine cg ?_|simp -dsimp[h15]
    ·repeat first|refine cg ?_|simp -dsimp[q16]
     revert hF;refine aS ?_ ?_<;>intro h18 q19 hF
     ·repeat first|refine cg ?_|simp -dsimp[h18]
      revert hF;refine aS ?_ ?_<;>intro h20 q21 hF
      ·have z22:(0<(p.kids.length:Int)):=auz
       have hF:=ob hF;obtain⟨x,e23,hF⟩:=hF
       have le23:=ZD e23
       cases hF
       repeat first|refine cg ?_|simp -dsimp[h20,z22,↓e23]
      ·have z22:¬(0<(p.kids.length:Int)):=auz
       cases hF
       repeat first|refine cg ?_|simp -dsimp[h20,q21,z22]
     ·repeat first|refine cg ?_|simp -dsimp[q19]
      revert hF;refine aS ?_ ?_<;>intro h24 q25 hF
      ·repeat first|refine cg ?_|simp -dsimp[h24]
       have hF:=ob hF;obtain⟨v26,e27,hF⟩:=hF
       refine yE ?_ ((C.f54 B hB1 hB2 v.2 [10,(-1),5] v26 e27)).ent
       repeat first|refine cg ?_|simp -dsimp
       refine((C.f54 B hB1 hB2 v.2 [10,(-1),5] v26 e27)).go 0 rfl (by simp_all) (by simp) (by simp_all) ?_
       cases hF
       repeat first|refine cg ?_|simp -dsimp
      ·cases hF
       repeat first|refine cg ?_|simp -dsimp[q25]
theorem CC.spec_l4Mutate__o0_l1 (v:Int×ZB):(∀(out:List Clause) (o:List Clause),F.f94 v out=some o->∀(c:Code),Zb [1,1,0,1,0,1,1,1,1,1,0,0,0] (ZK Tryz.f74)=some c->∀(Q:Exit->ASt->Prop),(Q (.exit 1) ⟨[(5,.own 1 (zA (α:=Clause) o))],[.cells [am cU v.2.f0,li v.2.f1],.elems 9 (zB yN o)]⟩)->ALoopU zQ B 1 56 (hold c .mk) ⟨[(5,.own 1 (zA (α:=Clause) out))],[.cells [am cU v.2.f0,li v.2.f1],.elems 9 (zB yN out)]⟩ (hold Q .mk)):=by
 refine F.f94.partial_correctness v
  _
  ?_
 ·intro _f_spec_l4Mutate__o0_l1 ih_spec_l4Mutate__o0_l1 out o hF
  refine ZJ rfl fun Q hq hk hs=> ?_
  have d0:=hs 0 _ rfl
  simp -dsimp[zS]at d0
  have d1:=hs 1 _ rfl
  simp -dsimp[zS]at d1
  clear hk hs
  refine eN ?_
  repeat first|refine cg ?_|simp -dsimp
  revert hF;refine aS ?_ ?_<;>intro h28 q29 hF
  ·have z30:((out.length:Int)<=8):=auz
   have hF:=oc hF;obtain⟨c31,hF⟩:=hF
   repeat first|refine cg ?_|simp -dsimp[h28,z30]
   refine zT ((ih_spec_l4Mutate__o0_l1 (out++[(⟨(⟨1,0,0,0,0,[]⟩:Pattern),(⟨0,0,0⟩:Guard)⟩:Clause)]) o hF) _ rfl _ hq)
  ·have z30:¬((out.length:Int)<=8):=auz
   cases hF
   repeat first|refine cg ?_|simp -dsimp[h28,q29,z30]
   refine zU hq
theorem C.spec_l4Mutate__o0 (r':ZB)(list:List Clause)(r:(List Clause)×ZB)(hF:F.f95 r' list=some r):BCall zQ B 74 [.cells [am cU r'.f0,li r'.f1]] [.ptr 0 0,am yN list] (.own 1 (zA (α:=Clause) r.1)) [.cells [am cU r.2.f0,li r.2.f1],.elems 9 (zB yN r.1)]:=by
 unfold F.f95 at hF
 refine yL (τ1:=[.cells [.arr (zB cU r.2.f0),.lit (.int .i64 r.2.f1)]]) (ys:=[.own 1 (zA (α:=Clause) r.1)]) (news:=[(9,zB yN r.1)]) func74 (by kernel_rfl) rfl ntmps74 (by simp) rfl rfl (by simp) (by simp) (by simp) (by simp) (by simp) (by simp) (gR _) ?_
 have hF:=oc hF;obtain⟨c1,hF⟩:=hF
 repeat first|refine cg ?_|simp -dsimp
 have hF:=ob hF;obtain⟨v,e2,hF⟩:=hF
 refine((C.f1 B hB1 hB2 r' 24 v e2)).go 0 rfl (by simp) (by simp) (by simp) ?_
 repeat first|refine cg ?_|simp -dsimp
 revert hF;refine aS ?_ ?_<;>intro h3 q4 hF
 ·repeat first|refine cg ?_|simp -dsimp[h3]
  revert hF;refine aS ?_ ?_<;>intro h5 q6 hF
  ·have z7:(0<(list.length:Int)):=auz
   repeat first|refine cg ?_|simp -dsimp[h5,z7]
   have hF:=ob hF;obtain⟨v8,e9,hF⟩:=hF
   refine yE ?_ ((C.f54 B hB1 hB2 v.2 [1,2,3,(-1)] v8 e9)).ent
   repeat first|refine cg ?_|simp -dsimp
   refine((C.f54 B hB1 hB2 v.2 [1,2,3,(-1)] v8 e9)).go 0 rfl (by simp_all) (by simp) (by simp_all) ?_
   repeat first|refine cg ?_|simp -dsimp
   have hF:=ob hF;obtain⟨v10,e11,hF⟩:=hF
   refine yE ?_ ((C.f54 B hB1 hB2 v8.2 [0,5,9] v10 e11)).ent
   repeat first|refine cg ?_|simp -dsimp
   refine((C.f54 B hB1 hB2 v8.2 [0,5,9] v10 e11)).go 0 rfl (by simp_all) (by simp) (by simp_all) ?_
   repeat first|refine cg ?_|simp -dsimp
   have hF:=ob hF;obtain⟨v12,e13,hF⟩:=hF
   refine yE ?_ ((C.f54 B hB1 hB2 v10.2 [3,10,(-1)] v12 e13)).ent
   repeat first|refine cg ?_|simp -dsimp
   refine((C.f54 B hB1 hB2 v10.2 [3,10,(-1)] v12 e13)).go 0 rfl (by simp_all) (by simp) (by simp_all) ?_
   have hF:=ob hF;obtain⟨x,e14,hF⟩:=hF
   have le14:=ZD e14
   cases hF
   repeat first|refine cg ?_|simp -dsimp[↓e14]
   all_goals(try first|omega|rfl|(simp;done)|(simp only[zC,zD]at*;omega)|simp)
  ·have z7:¬(0<(list.length:Int)):=auz
   cases hF
   repeat first|refine cg ?_|simp -dsimp[h5,q6,z7]
   all_goals(try first|omega|rfl|(simp;done)|(simp only[zC,zD]at*;omega)|simp)
 ·repeat first|refine cg ?_|simp -dsimp[q4]
  revert hF;refine aS ?_ ?_<;>intro h15 q16 hF
  ·repeat first|refine cg ?_|simp -dsimp[h15]
   revert hF;refine aS ?_ ?_<;>intro h17 q18 hF
   ·have z19:(0<(list.length:Int)):=auz
    have hF:=ob hF;obtain⟨x20,e21,hF⟩:=hF
    have le21:=ZD e21
    repeat first|refine cg ?_|simp -dsimp[h17,z19,↓e21]
    have hF:=ob hF;obtain⟨v22,e23,hF⟩:=hF
    refine((C.f93 B hB1 hB2 v.2 x20.pat v22 e23)).go 0 rfl (by simp_all) (by simp) (by simp_all) ?_
    repeat first|refine cg ?_|simp -dsimp[↓e21]
    have hF:=ob hF;obtain⟨v24,e25,hF⟩:=hF
    refine((C.f93 B hB1 hB2 v22.2 v22.1 v24 e25)).go 0 rfl (by simp_all) (by simp) (by simp_all) ?_
    cases hF
    repeat first|refine cg ?_|simp -dsimp[↓e21]
    all_goals(try first|omega|rfl|(simp;done)|(simp only[zC,zD]at*;omega)|simp)
   ·have z19:¬(0<(list.length:Int)):=auz
    cases hF
    repeat first|refine cg ?_|simp -dsimp[h17,q18,z19]
    all_goals(try first|omega|rfl|(simp;done)|(simp only[zC,zD]at*;omega)|simp)
  ·repeat first|refine cg ?_|simp -dsimp[q16]
   revert hF;refine aS ?_ ?_<;>intro h26 q27 hF
   ·repeat first|refine cg ?_|simp -dsimp[h26]
    have hF:=ob hF;obtain⟨o',ho32,hF⟩:=hF
    refine zV (((CC.spec_l4Mutate__o0_l1 B hB1 hB2 v) list o' ho32) _ rfl _ ?_)
    cases hF
    repeat first|refine cg ?_|simp -dsimp
    all_goals(try first|omega|rfl|(simp;done)|(simp only[zC,zD]at*;omega)|simp)
   ·cases hF
    repeat first|refine cg ?_|simp -dsimp[q27]
    all_goals(try first|omega|rfl|(simp;done)|(simp only[zC,zD]at*;omega)|simp)
theorem C.spec_DrawMissingPatterns__o2 (code:List Int)(r:(List yC)×Ty×(List Clause))(hF:F.f96 code=some r):BCall zQ B 48 [] [am cU code] (.tup [am yD r.1,.agg [li r.2.1.data,li r.2.1.index],.own 0 (zA (α:=Clause) r.2.2)]) [.elems 9 (zB yN r.2.2)]:=by
 unfold F.f96 at hF
 refine yL (τ1:=[]) (ys:=[.arr (zB yD r.1),.agg [.lit (.int .i64 r.2.1.data),.lit (.int .i64 r.2.1.index)],.own 0 (zA (α:=Clause) r.2.2)]) (news:=[(9,zB yN r.2.2)]) func48 (by kernel_rfl) rfl ntmps48 (by simp) rfl rfl (by simp) (by simp) (by simp) (by simp) (by simp) (by simp) (gR _) ?_
 repeat first|refine cg ?_|simp -dsimp
 refine yG func38 (by kernel_rfl) rfl ntmps38 (by simp) ?_
 repeat first|refine cg ?_|simp -dsimp
 revert hF;refine aS ?_ ?_<;>intro h1 q2 hF
 ·have z3:(2000<(code.length:Int)):=auz
  have hF:=oc hF;obtain⟨c4,hF⟩:=hF
  repeat first|refine cg ?_|simp -dsimp[h1,z3]
  have hF:=ob hF;obtain⟨v,e5,hF⟩:=hF
  refine((C.spec_l4Typed__o2 B hB1 hB2 (⟨(code.drop 0).take (2000-0),0⟩:ZB) v e5)).go (pl [1,2]) (by simp) (by simp) (ZCS _ (by simp) (by decide)) (by intro i hi hi';simp at hi hi';have hi:i=1:=(by omega);rcases hi with rfl<;>simp[pl]) (by simp[h1,z3]) (by simp[h1,z3]) ?_
  repeat first|refine cg ?_|simp -dsimp
  revert hF;refine aS ?_ ?_<;>intro h6 q7 hF
  ·have z8:(0<(v.2.2.1.length:Int)):=auz
   repeat first|refine cg ?_|simp -dsimp[h6,z8]
   have hF:=ob hF;obtain⟨v9,e10,hF⟩:=hF
   refine((C.f1 B hB1 hB2 v.2.2.2.2 4 v9 e10)).go 1 rfl (by simp[h1,z3,h6,z8]) (by simp) (by simp[h1,z3,h6,z8]) ?_
   repeat first|refine cg ?_|simp -dsimp[h1,z3,h6,z8]
   revert hF;refine aS ?_ ?_<;>intro h11 q12 hF
   ·repeat first|refine cg ?_|simp -dsimp[h1,z3,h6,z8,h11]
    have hF:=ob hF;obtain⟨v13,e14,hF⟩:=hF
    refine((C.f92 B hB1 hB2 v13 e14)).goI ?_
    have hF:=oc hF;obtain⟨c15,hF⟩:=hF
    repeat first|refine cg ?_|simp -dsimp
    refine zP (zZ 8 (l:=2) (n:=zA (α:=Clause) (v.2.2.1++[(⟨v13,(⟨0,0,0⟩:Guard)⟩:Clause)])) (sz:=9) (es:=zB yN (v.2.2.1++[(⟨v13,(⟨0,0,0⟩:Guard)⟩:Clause)])) (by simp) (by simp) (by simp) (by simp)) ?_
    repeat first|refine cg ?_|simp -dsimp
    refine zL [74] [(0,1),(0,1),(0,0),(0,0),(0,2),(1,1),(0,2),(2,2)] [1,2,1,1,1,1,1,1] follows ?_
    repeat first|refine cg ?_|simp -dsimp
    have hF:=ob hF;obtain⟨v16,e17,hF⟩:=hF
    refine((C.spec_l4Mutate__o0 B hB1 hB2 v9.2 (v.2.2.1++[(⟨v13,(⟨0,0,0⟩:Guard)⟩:Clause)]) v16 e17)).ego (pl [1,6]) (by simp) (by simp) (ZCS _ (by simp) (by decide)) (by intro i hi hi';simp at hi hi';have hi:i=1:=(by omega);rcases hi with rfl<;>simp[pl]) (by simp[h1,z3,h6,z8,h11]) (by simp[h1,z3,h6,z8,h11]) ?_
    cases hF
    repeat first|refine cg ?_|simp -dsimp
    all_goals(try first|omega|rfl|(simp;done)|(simp only[zC,zD]at*;omega)|simp)
   ·repeat first|refine cg ?_|simp -dsimp[h1,z3,h6,z8,h11,q12]
    refine zP (zZ 8 (l:=2) (n:=zA (α:=Clause) v.2.2.1) (sz:=9) (es:=zB yN v.2.2.1) (by simp) (by simp) (by simp) (by simp)) ?_
    repeat first|refine cg ?_|simp -dsimp
    refine zL [74] [(0,1),(0,1),(0,0),(0,0),(0,2),(1,1),(0,2),(2,2)] [1,2,1,1,1,1,1,1] follows ?_
    repeat first|refine cg ?_|simp -dsimp
    have hF:=ob hF;obtain⟨v18,e19,hF⟩:=hF
    refine((C.spec_l4Mutate__o0 B hB1 hB2 v9.2 v.2.2.1 v18 e19)).ego (pl [1,5]) (by simp) (by simp) (ZCS _ (by simp) (by decide)) (by intro i hi hi';simp at hi hi';have hi:i=1:=(by omega);rcases hi with rfl<;>simp[pl]) (by simp[h1,z3,h6,z8,h11,q12]) (by simp[h1,z3,h6,z8,h11,q12]) ?_
    cases hF
    repeat first|refine cg ?_|simp -dsimp
    all_goals(try first|omega|rfl|(simp;done)|(simp only[zC,zD]at*;omega)|simp)
  ·have z8:¬(0<(v.2.2.1.length:Int)):=auz
   repeat first|refine cg ?_|simp -dsimp[h6,q7,z8]
   refine zP (zZ 8 (l:=2) (n:=zA (α:=Clause) v.2.2.1) (sz:=9) (es:=zB yN v.2.2.1) (by simp) (by simp) (by simp) (by simp)) ?_
   repeat first|refine cg ?_|simp -dsimp
   refine zL [74] [(0,1),(0,1),(0,0),(0,0),(0,2),(1,1),(0,2),(2,2)] [1,2,1,1,1,1,1,1] follows ?_
   repeat first|refine cg ?_|simp -dsimp
   have hF:=ob hF;obtain⟨v20,e21,hF⟩:=hF
   refine((C.spec_l4Mutate__o0 B hB1 hB2 v.2.2.2.2 v.2.2.1 v20 e21)).ego (pl [1,5]) (by simp) (by simp) (ZCS _ (by simp) (by decide)) (by intro i hi hi';simp at hi hi';have hi:i=1:=(by omega);rcases hi with rfl<;>simp[pl]) (by simp[h1,z3,h6,q7,z8]) (by simp[h1,z3,h6,q7,z8]) ?_
   cases hF
   repeat first|refine cg ?_|simp -dsimp
   all_goals(try first|omega|rfl|(simp;done)|(simp only[zC,zD]at*;omega)|simp)
 ·have z3:¬(2000<(code.length:Int)):=auz
  repeat first|refine cg ?_|simp -dsimp[h1,q2,z3]
  have hF:=ob hF;obtain⟨v22,e23,hF⟩:=hF
  refine((C.spec_l4Typed__o2 B hB1 hB2 (⟨code,0⟩:ZB) v22 e23)).go (pl [1,2]) (by simp) (by simp) (ZCS _ (by simp) (by decide)) (by intro i hi hi';simp at hi hi';have hi:i=1:=(by omega);rcases hi with rfl<;>simp[pl]) (by simp[h1,q2,z3]) (by simp[h1,q2,z3]) ?_
  repeat first|refine cg ?_|simp -dsimp
  revert hF;refine aS ?_ ?_<;>intro h24 q25 hF
  ·have z26:(0<(v22.2.2.1.length:Int)):=auz
   repeat first|refine cg ?_|simp -dsimp[h24,z26]
   have hF:=ob hF;obtain⟨v27,e28,hF⟩:=hF
   refine((C.f1 B hB1 hB2 v22.2.2.2.2 4 v27 e28)).go 1 rfl (by simp[h1,q2,z3,h24,z26]) (by simp) (by simp[h1,q2,z3,h24,z26]) ?_
   repeat first|refine cg ?_|simp -dsimp[h1,q2,z3,h24,z26]
   revert hF;refine aS ?_ ?_<;>intro h29 q30 hF
   ·repeat first|refine cg ?_|simp -dsimp[h1,q2,z3,h24,z26,h29]
    have hF:=ob hF;obtain⟨v31,e32,hF⟩:=hF
    refine((C.f92 B hB1 hB2 v31 e32)).goI ?_
    have hF:=oc hF;obtain⟨c33,hF⟩:=hF
    repeat first|refine cg ?_|simp -dsimp
    refine zP (zZ 8 (l:=2) (n:=zA (α:=Clause) (v22.2.2.1++[(⟨v31,(⟨0,0,0⟩:Guard)⟩:Clause)])) (sz:=9) (es:=zB yN (v22.2.2.1++[(⟨v31,(⟨0,0,0⟩:Guard)⟩:Clause)])) (by simp) (by simp) (by simp) (by simp)) ?_
    repeat first|refine cg ?_|simp -dsimp
    refine zL [74] [(0,1),(0,1),(0,0),(0,0),(0,2),(1,1),(0,2),(2,2)] [1,2,1,1,1,1,1,1] follows ?_
    repeat first|refine cg ?_|simp -dsimp
    have hF:=ob hF;obtain⟨v34,e35,hF⟩:=hF
    refine((C.spec_l4Mutate__o0 B hB1 hB2 v27.2 (v22.2.2.1++[(⟨v31,(⟨0,0,0⟩:Guard)⟩:Clause)]) v34 e35)).ego (pl [1,6]) (by simp) (by simp) (ZCS _ (by simp) (by decide)) (by intro i hi hi';simp at hi hi';have hi:i=1:=(by omega);rcases hi with rfl<;>simp[pl]) (by simp[h1,q2,z3,h24,z26,h29]) (by simp[h1,q2,z3,h24,z26,h29]) ?_
    cases hF
    repeat first|refine cg ?_|simp -dsimp
    all_goals(try first|omega|rfl|(simp;done)|(simp only[zC,zD]at*;omega)|simp)
   ·repeat first|refine cg ?_|simp -dsimp[h1,q2,z3,h24,z26,h29,q30]
    refine zP (zZ 8 (l:=2) (n:=zA (α:=Clause) v22.2.2.1) (sz:=9) (es:=zB yN v22.2.2.1) (by simp) (by simp) (by simp) (by simp)) ?_
    repeat first|refine cg ?_|simp -dsimp
    refine zL [74] [(0,1),(0,1),(0,0),(0,0),(0,2),(1,1),(0,2),(2,2)] [1,2,1,1,1,1,1,1] follows ?_
    repeat first|refine cg ?_|simp -dsimp
    have hF:=ob hF;obtain⟨v36,e37,hF⟩:=hF
    refine((C.spec_l4Mutate__o0 B hB1 hB2 v27.2 v22.2.2.1 v36 e37)).ego (pl [1,5]) (by simp) (by simp) (ZCS _ (by simp) (by decide)) (by intro i hi hi';simp at hi hi';have hi:i=1:=(by omega);rcases hi with rfl<;>simp[pl]) (by simp[h1,q2,z3,h24,z26,h29,q30]) (by simp[h1,q2,z3,h24,z26,h29,q30]) ?_
    cases hF
    repeat first|refine cg ?_|simp -dsimp
    all_goals(try first|omega|rfl|(simp;done)|(simp only[zC,zD]at*;omega)|simp)
  ·have z26:¬(0<(v22.2.2.1.length:Int)):=auz
   repeat first|refine cg ?_|simp -dsimp[h24,q25,z26]
   refine zP (zZ 8 (l:=2) (n:=zA (α:=Clause) v22.2.2.1) (sz:=9) (es:=zB yN v22.2.2.1) (by simp) (by simp) (by simp) (by simp)) ?_
   repeat first|refine cg ?_|simp -dsimp
   refine zL [74] [(0,1),(0,1),(0,0),(0,0),(0,2),(1,1),(0,2),(2,2)] [1,2,1,1,1,1,1,1] follows ?_
   repeat first|refine cg ?_|simp -dsimp
   have hF:=ob hF;obtain⟨v38,e39,hF⟩:=hF
   refine((C.spec_l4Mutate__o0 B hB1 hB2 v22.2.2.2.2 v22.2.2.1 v38 e39)).ego (pl [1,5]) (by simp) (by simp) (ZCS _ (by simp) (by decide)) (by intro i hi hi';simp at hi hi';have hi:i=1:=(by omega);rcases hi with rfl<;>simp[pl]) (by simp[h1,q2,z3,h24,q25,z26]) (by simp[h1,q2,z3,h24,q25,z26]) ?_
   cases hF
   repeat first|refine cg ?_|simp -dsimp
   all_goals(try first|omega|rfl|(simp;done)|(simp only[zC,zD]at*;omega)|simp)
theorem C.f97 (code:List Int)(r:(List yC)×Ty×(List Clause))(hF:F.f97 code=some r):PureCall zQ B 27 [am cU code] (.tup [am yD r.1,.agg [li r.2.1.data,li r.2.1.index],am yN r.2.2]):=by
 unfold F.f97 at hF
 refine zJ func27 rfl ntmps27 ?_
 repeat first|refine cg ?_|simp -dsimp
 refine yG func38 (by kernel_rfl) rfl ntmps38 (by simp) ?_
 repeat first|refine cg ?_|simp -dsimp
 revert hF;refine aS ?_ ?_<;>intro h1 q2 hF
 ·have z3:(2000<(code.length:Int)):=auz
  have hF:=oc hF;obtain⟨c4,hF⟩:=hF
  repeat first|refine cg ?_|simp -dsimp[h1,z3]
  have hF:=ob hF;obtain⟨v,e5,hF⟩:=hF
  refine((C.spec_DrawMissingPatterns__o2 B hB1 hB2 code v e5)).go (pl [2]) (by simp) (by simp) (by intro i j hi;simp at hi) (by intro i hi hi';simp at hi hi';have hi:i=0:=(by omega);rcases hi with rfl<;>simp[pl]) (by simp[h1,z3]) (by simp[h1,z3]) ?_
  repeat first|refine cg ?_|simp -dsimp
  revert hF;refine aS ?_ ?_<;>intro h6 q7 hF
  ·have z8:(0<(v.2.2.length:Int)):=auz
   repeat first|refine cg ?_|simp -dsimp[h6,z8]
   revert hF;refine aS ?_ ?_<;>intro h9 q10 hF
   ·have z11:((v.2.2.length:Int)<8):=auz
    repeat first|refine cg ?_|simp -dsimp[h9,z11]
    have hF:=ob hF;obtain⟨v12,e13,hF⟩:=hF
    refine((C.f1 B hB1 hB2 (⟨(code.drop 0).take (2000-0),0⟩:ZB) 2 v12 e13)).go 1 rfl (by simp[h1,z3,h6,z8,h9,z11]) (by simp) (by simp[h1,z3,h6,z8,h9,z11]) ?_
    repeat first|refine cg ?_|simp -dsimp[h1,z3,h6,z8,h9,z11]
    revert hF;refine aS ?_ ?_<;>intro h14 q15 hF
    ·repeat first|refine cg ?_|simp -dsimp[h1,z3,h6,z8,h9,z11,h14]
     have hF:=ob hF;obtain⟨v16,e17,hF⟩:=hF
     refine((C.f1 B hB1 hB2 v12.2 (v.2.2.length:Int) v16 e17)).go 1 rfl (by simp[h1,z3,h6,z8,h9,z11,h14]) (by simp) (by simp[h1,z3,h6,z8,h9,z11,h14]) ?_
     have hF:=ob hF;obtain⟨x,e18a,hF⟩:=hF
     have e18a:=ZO e18a;obtain⟨ne18,e18⟩:=e18a
     have le18:=ZD e18
     have hF:=oc hF;obtain⟨c19,hF⟩:=hF
     repeat first|refine cg ?_|simp -dsimp[↓e18]
     refine zL [] [(0,0),(0,0),(0,1),(0,0),(0,1),(1,1)] [1,1,1,1,1,1] follows ?_
     cases hF
     repeat first|refine cg ?_|simp -dsimp
    ·repeat first|refine cg ?_|simp -dsimp[h1,z3,h6,z8,h9,z11,h14,q15]
     refine zL [] [(0,0),(0,0),(0,1),(0,0),(0,1),(1,1)] [1,1,1,1,1,1] follows ?_
     cases hF
     repeat first|refine cg ?_|simp -dsimp
   ·have z11:¬((v.2.2.length:Int)<8):=auz
    repeat first|refine cg ?_|simp -dsimp[h9,q10,z11]
    refine zL [] [(0,0),(0,0),(0,1),(0,0),(0,1),(1,1)] [1,1,1,1,1,1] follows ?_
    cases hF
    repeat first|refine cg ?_|simp -dsimp
  ·have z8:¬(0<(v.2.2.length:Int)):=auz
   repeat first|refine cg ?_|simp -dsimp[h6,q7,z8]
   refine zL [] [(0,0),(0,0),(0,1),(0,0),(0,1),(1,1)] [1,1,1,1,1,1] follows ?_
   cases hF
   repeat first|refine cg ?_|simp -dsimp
 ·have z3:¬(2000<(code.length:Int)):=auz
  repeat first|refine cg ?_|simp -dsimp[h1,q2,z3]
  have hF:=ob hF;obtain⟨v20,e21,hF⟩:=hF
  refine((C.spec_DrawMissingPatterns__o2 B hB1 hB2 code v20 e21)).go (pl [2]) (by simp) (by simp) (by intro i j hi;simp at hi) (by intro i hi hi';simp at hi hi';have hi:i=0:=(by omega);rcases hi with rfl<;>simp[pl]) (by simp[h1,q2,z3]) (by simp[h1,q2,z3]) ?_
  repeat first|refine cg ?_|simp -dsimp
  revert hF;refine aS ?_ ?_<;>intro h22 q23 hF
  ·have z24:(0<(v20.2.2.length:Int)):=auz
   repeat first|refine cg ?_|simp -dsimp[h22,z24]
   revert hF;refine aS ?_ ?_<;>intro h25 q26 hF
   ·have z27:((v20.2.2.length:Int)<8):=auz
    repeat first|refine cg ?_|simp -dsimp[h25,z27]
    have hF:=ob hF;obtain⟨v28,e29,hF⟩:=hF
    refine((C.f1 B hB1 hB2 (⟨code,0⟩:ZB) 2 v28 e29)).go 1 rfl (by simp[h1,q2,z3,h22,z24,h25,z27]) (by simp) (by simp[h1,q2,z3,h22,z24,h25,z27]) ?_
    repeat first|refine cg ?_|simp -dsimp[h1,q2,z3,h22,z24,h25,z27]
    revert hF;refine aS ?_ ?_<;>intro h30 q31 hF
    ·repeat first|refine cg ?_|simp -dsimp[h1,q2,z3,h22,z24,h25,z27,h30]
     have hF:=ob hF;obtain⟨v32,e33,hF⟩:=hF
     refine((C.f1 B hB1 hB2 v28.2 (v20.2.2.length:Int) v32 e33)).go 1 rfl (by simp[h1,q2,z3,h22,z24,h25,z27,h30]) (by simp) (by simp[h1,q2,z3,h22,z24,h25,z27,h30]) ?_
     have hF:=ob hF;obtain⟨x34,e35a,hF⟩:=hF
     have e35a:=ZO e35a;obtain⟨ne35,e35⟩:=e35a
     have le35:=ZD e35
     have hF:=oc hF;obtain⟨c36,hF⟩:=hF
     repeat first|refine cg ?_|simp -dsimp[↓e35]
     refine zL [] [(0,0),(0,0),(0,1),(0,0),(0,1),(1,1)] [1,1,1,1,1,1] follows ?_
     cases hF
     repeat first|refine cg ?_|simp -dsimp
    ·repeat first|refine cg ?_|simp -dsimp[h1,q2,z3,h22,z24,h25,z27,h30,q31]
     refine zL [] [(0,0),(0,0),(0,1),(0,0),(0,1),(1,1)] [1,1,1,1,1,1] follows ?_
     cases hF
     repeat first|refine cg ?_|simp -dsimp
   ·have z27:¬((v20.2.2.length:Int)<8):=auz
    repeat first|refine cg ?_|simp -dsimp[h25,q26,z27]
    refine zL [] [(0,0),(0,0),(0,1),(0,0),(0,1),(1,1)] [1,1,1,1,1,1] follows ?_
    cases hF
    repeat first|refine cg ?_|simp -dsimp
  ·have z24:¬(0<(v20.2.2.length:Int)):=auz
   repeat first|refine cg ?_|simp -dsimp[h22,q23,z24]
   refine zL [] [(0,0),(0,0),(0,1),(0,0),(0,1),(1,1)] [1,1,1,1,1,1] follows ?_
   cases hF
   repeat first|refine cg ?_|simp -dsimp
theorem C.spec_l17Open__p (code:List Int)(r:ZB)(hF:F.f98 code=some r):BCall zQ B 38 [] [am cU code] (.ptr 0 0) [.cells [am cU r.f0,li r.f1]]:=by
 unfold F.f98 at hF
 refine yM func38 (by kernel_rfl) rfl ntmps38 (by simp) rfl (by simp) (by simp) (by simp) (by simp) (by simp) (gR _) ?_
 repeat first|refine cg ?_|simp -dsimp
 revert hF;refine aS ?_ ?_<;>intro h1 q2 hF
 ·have z3:(2000<(code.length:Int)):=auz
  have hF:=oc hF;obtain⟨c4,hF⟩:=hF
  cases hF
  repeat first|refine cg ?_|simp -dsimp[h1,z3]
  all_goals(try first|omega|rfl|(simp;done)|(simp only[zC,zD]at*;omega)|simp)
 ·have z3:¬(2000<(code.length:Int)):=auz
  cases hF
  repeat first|refine cg ?_|simp -dsimp[h1,q2,z3]
  all_goals(try first|omega|rfl|(simp;done)|(simp only[zC,zD]at*;omega)|simp)
theorem C.f99 (code:List Int)(r:(List yC)×Ty×(List Clause)×Int)(hF:F.f99 code=some r):PureCall zQ B 68 [am cU code] (.tup [am yD r.1,.agg [li r.2.1.data,li r.2.1.index],am yN r.2.2.1,li r.2.2.2]):=by
 unfold F.f99 at hF
 refine zJ func68 rfl ntmps68 ?_
 repeat first|refine cg ?_|simp -dsimp
 have hF:=ob hF;obtain⟨v,e1,hF⟩:=hF
 refine((C.f97 B hB1 hB2 code v e1)).goI ?_
 repeat first|refine cg ?_|simp -dsimp
 refine zR ?_
 refine zO [] [(4,5)] [(5,4)] 4 5 rfl rfl (by kernel_rfl) ?_ ?_
 ·refine zN [(4,5)] [0,1,2,3,4,5,6,7,8,9,10] [38,42] [(0,3),(0,3),(0,4),(0,0),(0,4),(0,4),(0,4),(3,3),(0,4),(4,4),(4,4)] [1,2,1,1,1,1,1,1,1,1,1] follows (by kernel_rfl) (by kernel_rfl) (by kernel_rfl) (by kernel_rfl) ?_
  repeat first|refine cg ?_|simp -dsimp
  have hF:=ob hF;obtain⟨v2,e3,hF⟩:=hF
  refine((C.spec_l17Open__p B hB1 hB2 code v2 e3)).ego (pl [2]) (by simp) (by simp) (by intro i j hi;simp at hi) (by intro i hi hi';simp at hi hi';first|omega|(subst hi';simp[pl])) (by simp) (by simp) ?_
  repeat first|refine cg ?_|simp -dsimp
  have hF:=ob hF;obtain⟨v4,e5,hF⟩:=hF
  refine yH ?_ ((C.f54 B hB1 hB2 v2 [0,1,2,0,1,2,3,(-1)] v4 e5)).ent
  repeat first|refine cg ?_|simp -dsimp
  refine((C.f54 B hB1 hB2 v2 [0,1,2,0,1,2,3,(-1)] v4 e5)).ego 2 rfl (by simp) (by simp) (by simp) ?_
  cases hF
  repeat first|refine cg ?_|simp -dsimp
 ·refine zN [(5,4)] [0,1,2,3,5,4,6,7,8,9,10] [38,42] [(0,3),(0,3),(0,4),(0,1),(0,4),(0,4),(0,4),(3,3),(0,4),(4,4),(4,4)] [1,2,1,1,1,1,1,1,1,1,1] follows (by kernel_rfl) (by kernel_rfl) (by kernel_rfl) (by kernel_rfl) ?_
  repeat first|refine cg ?_|simp -dsimp
  have hF:=ob hF;obtain⟨v2,e3,hF⟩:=hF
  refine((C.spec_l17Open__p B hB1 hB2 code v2 e3)).ego (pl [3]) (by simp) (by simp) (by intro i j hi;simp at hi) (by intro i hi hi';simp at hi hi';first|omega|(subst hi';simp[pl])) (by simp) (by simp) ?_
  repeat first|refine cg ?_|simp -dsimp
  have hF:=ob hF;obtain⟨v4,e5,hF⟩:=hF
  refine yH ?_ ((C.f54 B hB1 hB2 v2 [0,1,2,0,1,2,3,(-1)] v4 e5)).ent
  repeat first|refine cg ?_|simp -dsimp
  refine((C.f54 B hB1 hB2 v2 [0,1,2,0,1,2,3,(-1)] v4 e5)).ego 3 rfl (by simp) (by simp) (by simp) ?_
  cases hF
  repeat first|refine cg ?_|simp -dsimp
theorem C.f100 (w:List yC)(t:Ty)(r:Bool)(hF:F.f100 w t=some r):PureCall zQ B 92 [am yD w,.agg [li t.data,li t.index]] (.lit (.bool r)):=by
 unfold F.f100 at hF
 refine zJ func92 rfl ntmps92 ?_
 repeat first|refine cg ?_|simp -dsimp
 have hF:=ob hF;obtain⟨v,e1,hF⟩:=hF
 refine((C.f15 B hB1 hB2 (w.length:Int) t v e1)).goI ?_
 repeat first|refine cg ?_|simp -dsimp
 revert hF;refine aS (fun h2 q3 hF=> ?_) (fun h2 q3 hF=> ?_)
 ·cases hF
  repeat first|refine cg ?_|simp -dsimp[h2]
 ·cases hF
  repeat first|refine cg ?_|simp -dsimp[q3]
theorem C.f101 (w:List yC)(t:Ty)(r:Bool)(hF:F.f101 w t=some r):PureCall zQ B 59 [am yD w,.agg [li t.data,li t.index]] (.lit (.bool r)):=by
 unfold F.f101 at hF
 refine zJ func59 rfl ntmps59 ?_
 repeat first|refine cg ?_|simp -dsimp
 have hF:=ob hF;obtain⟨v,e1,hF⟩:=hF
 refine((C.f24 B hB1 hB2 w v e1)).goI ?_
 repeat first|refine cg ?_|simp -dsimp
 revert hF;refine aS (fun h2 q3 hF=> ?_) (fun h2 q3 hF=> ?_)
 ·repeat first|refine cg ?_|simp -dsimp[h2]
  have hF:=ob hF;obtain⟨v4,e5,hF⟩:=hF
  refine((C.f100 B hB1 hB2 w t v4 e5)).goI ?_
  cases hF
  repeat first|refine cg ?_|simp -dsimp[h2]
 ·cases hF
  repeat first|refine cg ?_|simp -dsimp[h2,q3]
theorem C.f102 (g:Guard)(vars:List VarType)(r:Bool)(hF:F.f102 g vars=some r):PureCall zQ B 94 [.agg [li g.op,li g.var,li g.n],am yK vars] (.lit (.bool r)):=by
 unfold F.f102 at hF
 refine zJ func94 rfl ntmps94 ?_
 repeat first|refine cg ?_|simp -dsimp
 revert hF;refine aS ?_ ?_<;>intro h1 q2 hF
 ·repeat first|refine cg ?_|simp -dsimp[h1]
  revert hF;refine aS ?_ ?_<;>intro h3 q4 hF
  ·cases hF
   repeat first|refine cg ?_|simp -dsimp[h1,h3]
  ·cases hF
   repeat first|refine cg ?_|simp -dsimp[h1,h3,q4]
 ·repeat first|refine cg ?_|simp -dsimp[h1,q2]
  revert hF;refine aN ?_ ?_<;>intro h5 q6 hF
  ·repeat first|refine cg ?_|simp -dsimp[h1,q2,h5,q6]
   revert hF;refine aS ?_ ?_<;>intro h7 q8 hF
   ·repeat first|refine cg ?_|simp -dsimp[h1,q2,h5,q6,h7]
    revert hF;refine aN ?_ ?_<;>intro h9 q10 hF
    ·repeat first|refine cg ?_|simp -dsimp[h1,q2,h5,q6,h7,h9,q10]
     revert hF;refine aS ?_ ?_<;>intro h11 q12 hF
     ·cases hF
      repeat first|refine cg ?_|simp -dsimp[h1,q2,h5,q6,h7,h9,q10,h11]
     ·repeat first|refine cg ?_|simp -dsimp[h1,q2,h5,q6,h7,h9,q10,h11,q12]
      have hF:=ob hF;obtain⟨v,e13,hF⟩:=hF
      refine((C.f79 B hB1 hB2 vars g.var v e13)).goI ?_
      repeat first|refine cg ?_|simp -dsimp[h1,q2,h5,q6,h7,h9,q10,h11,q12]
      revert hF;refine aS ?_ ?_<;>intro h14 q15 hF
      ·have hF:=ob hF;obtain⟨x,e16a,hF⟩:=hF
       have e16a:=ZO e16a;obtain⟨ne16,e16⟩:=e16a
       have le16:=ZD e16
       cases hF
       repeat first|refine cg ?_|simp -dsimp[h1,q2,h5,q6,h7,h9,q10,h11,q12,h14,↓e16]
      ·cases hF
       repeat first|refine cg ?_|simp -dsimp[h1,q2,h5,q6,h7,h9,q10,h11,q12,h14,q15]
    ·cases hF
     repeat first|refine cg ?_|simp -dsimp[h1,q2,h5,q6,h7,h9,q10]
   ·cases hF
    repeat first|refine cg ?_|simp -dsimp[h1,q2,h5,q6,h7,q8]
  ·repeat first|refine cg ?_|simp -dsimp[h1,q2,h5,q6]
   revert hF;refine aN ?_ ?_<;>intro h17 q18 hF
   ·repeat first|refine cg ?_|simp -dsimp[h1,q2,h5,q6,h17,q18]
    revert hF;refine aS ?_ ?_<;>intro h19 q20 hF
    ·cases hF
     repeat first|refine cg ?_|simp -dsimp[h1,q2,h5,q6,h17,q18,h19]
    ·repeat first|refine cg ?_|simp -dsimp[h1,q2,h5,q6,h17,q18,h19,q20]
     have hF:=ob hF;obtain⟨v21,e22,hF⟩:=hF
     refine((C.f79 B hB1 hB2 vars g.var v21 e22)).goI ?_
     repeat first|refine cg ?_|simp -dsimp[h1,q2,h5,q6,h17,q18,h19,q20]
     revert hF;refine aS ?_ ?_<;>intro h23 q24 hF
     ·have hF:=ob hF;obtain⟨x25,e26a,hF⟩:=hF
      have e26a:=ZO e26a;obtain⟨ne26,e26⟩:=e26a
      have le26:=ZD e26
      cases hF
      repeat first|refine cg ?_|simp -dsimp[h1,q2,h5,q6,h17,q18,h19,q20,h23,↓e26]
     ·cases hF
      repeat first|refine cg ?_|simp -dsimp[h1,q2,h5,q6,h17,q18,h19,q20,h23,q24]
   ·cases hF
    repeat first|refine cg ?_|simp -dsimp[h1,q2,h5,q6,h17,q18]
theorem C.f103 (w:List yC)(t:Ty)(c':Clause)(r:Bool)(hF:F.f103 w t c'=some r):PureCall zQ B 60 [am yD w,.agg [li t.data,li t.index],.agg [li c'.pat.op,li c'.pat.ctor,li c'.pat.n,li c'.pat.m,li c'.pat.var,am yJ c'.pat.kids,li c'.guard.op,li c'.guard.var,li c'.guard.n]] (.lit (.bool r)):=by
 unfold F.f103 at hF
 refine zJ func60 rfl ntmps60 ?_
 repeat first|refine cg ?_|simp -dsimp
 refine zL [94,95] [(0,0),(0,0),(0,0),(0,0),(0,2),(0,0),(0,1),(0,1),(0,0),(0,0),(0,0),(0,0),(0,2),(0,2),(2,2),(2,2)] [1,1,1,1,1,1,0,2,1,1,1,1,1,1,1,1] follows ?_
 repeat first|refine cg ?_|simp -dsimp
 have hF:=ob hF;obtain⟨v,e1,hF⟩:=hF
 refine((C.f85 B hB1 hB2 w t c'.pat v e1)).pgoW (by simp) (by simp) ?_
 repeat first|refine cg ?_|simp -dsimp
 revert hF;refine aS (fun h2 q3 hF=> ?_) (fun h2 q3 hF=> ?_)
 ·repeat first|refine cg ?_|simp -dsimp[h2]
  have hF:=ob hF;obtain⟨v4,e5,hF⟩:=hF
  refine yI 0 3 (by simp) ?_
  repeat first|refine cg ?_|simp -dsimp
  refine(((CC.f74 B hB1 hB2 w).1 [] t c'.pat v4 e5)).ego (pl [2]) (by simp) (by simp) (ZBE _ rfl (by decide)) (by intro i hi hi';simp at hi hi';first|omega|(subst hi';simp[pl])) (by simp_all) (by simp_all) ?_
  repeat first|refine cg ?_|simp -dsimp
  have hF:=ob hF;obtain⟨v6,e7,hF⟩:=hF
  refine((C.f102 B hB1 hB2 c'.guard v4 v6 e7)).elend (by simp_all) (by simp -dsimp) ?_
  cases hF
  repeat first|refine cg ?_|simp -dsimp
 ·skip
  cases hF
  repeat first|refine cg ?_|simp -dsimp[q3]
theorem CC.f104 (w:List yC)(t:Ty)(list:List Clause):(∀(i:Nat) (o:Lo Bool Unit),F.f104 w t list i=some o->∀(c:Code),Zb [1,1,0,1,0,0] (ZK Tryz.f34)=some c->∀(Q:Exit->ASt->Prop),o.post (fun r=>∀st,ZA2 zQ Tryz.f34 (fun r' _=>r'.le (.lit (.bool r))) .ret st->Q .ret st) (fun s=>Q (.exit 0) ⟨[],[]⟩)->ALoopU zQ B 0 31 (hold c .mk) ⟨[(0,am yD w),(2,am yN list),(4,.ptr 0 0),(7,li (i:Int))],[.cells [li t.data,li t.index]]⟩ (hold Q .mk)):=by
 refine F.f104.partial_correctness w t list
  _
  ?_
 ·intro _f_f104 ih_f104 i o hF
  refine ZJ rfl fun Q hq hk hs=> ?_
  have b0:=hk 0
  simp -dsimp at b0
  have b2:=hk 2
  simp -dsimp at b2
  clear hk hs
  refine eN ?_
  repeat first|refine cg ?_|simp -dsimp
  revert hF;refine aS ?_ ?_<;>intro h7 q8 hF
  ·have z9:((i:Int)<(list.length:Int)):=auz
   repeat first|refine cg ?_|simp -dsimp[h7,z9]
   refine zM follows ?_
   have hF:=ob hF;obtain⟨x,e10,hF⟩:=hF
   have le10:=ZD e10
   repeat first|refine cg ?_|simp -dsimp[↓e10]
   have hF:=ob hF;obtain⟨v11,e12,hF⟩:=hF
   refine((C.f103 B hB1 hB2 w t x v11 e12)).pgoW (by simp_all) (by simp) ?_
   repeat first|refine cg ?_|simp -dsimp
   revert hF;refine aN (fun h13 q14 hF=> ?_) (fun h13 q14 hF=> ?_)
   ·cases hF
    repeat first|refine cg ?_|simp -dsimp[h13,q14]
    refine lG _ (gR _) (hq _ ?_)
    repeat first|refine cg ?_|simp -dsimp
   ·have w15:i64.wrap ((i:Int)+1)=(i:Int)+1:=ZF (by omega) (by omega)
    repeat first|refine cg ?_|simp -dsimp[w15]
    refine zT ((ih_f104 (i+1) o hF) _ rfl _ hq)
  ·have z9:¬((i:Int)<(list.length:Int)):=auz
   cases hF
   repeat first|refine cg ?_|simp -dsimp[h7,q8,z9]
   refine zU hq
theorem C.f105 (w:List yC)(t:Ty)(list:List Clause)(r:Bool)(hF:F.f105 w t list=some r):PureCall zQ B 34 [am yD w,.agg [li t.data,li t.index],am yN list] (.lit (.bool r)):=by
 unfold F.f105 at hF
 refine zJ func34 rfl ntmps34 ?_
 repeat first|refine cg ?_|simp -dsimp
 have hF:=ob hF;obtain⟨v,e1,hF⟩:=hF
 refine((C.f101 B hB1 hB2 w t v e1)).goI ?_
 repeat first|refine cg ?_|simp -dsimp
 revert hF;refine aS (fun h2 q3 hF=> ?_) (fun h2 q3 hF=> ?_)
 ·repeat first|refine cg ?_|simp -dsimp[h2]
  revert hF;refine aS ?_ ?_<;>intro h4 q5 hF
  ·have z6:(8<(list.length:Int)):=auz
   cases hF
   repeat first|refine cg ?_|simp -dsimp[h4,z6]
  ·have z6:¬(8<(list.length:Int)):=auz
   repeat first|refine cg ?_|simp -dsimp[h4,q5,z6]
   have hF:=ob hF;obtain⟨o',ho16,hF⟩:=hF
   refine zV (((CC.f104 B hB1 hB2 w t list) 0 o' ho16) _ rfl _ ?_)
   rcases o' with r0|sx
   ·dsimp only at hF
    cases hF
    intro st h
    simpa using h
   ·dsimp only at hF
    cases hF
    repeat first|refine cg ?_|simp -dsimp
 ·cases hF
  repeat first|refine cg ?_|simp -dsimp[q3]
theorem CC.f106 (lists:List (List Pattern))(out:List (List Pattern))(i:Nat)(k:Nat):(∀(next10:List (List Pattern)) (j:Nat) (o:List (List Pattern)),F.f106 lists out i k next10 j=some o->∀(c:Code),Zb [1,1,0,1,0,0,1,0,0,1,0,1,0,0,1,0,0,1,0,0] (ZK Tryz.f61)=some c->∀(Q:Exit->ASt->Prop),(Q (.exit 4) ⟨[(0,am (cL yJ) lists),(3,am (cL yJ) out),(4,li (i:Int)),(5,.own 2 (zA (α:=List Pattern) o)),(6,li (k:Int))],[.dead,.dead,.elems 1 (zB (cL yJ) o)]⟩)->ALoopU zQ B 0 62 (hold c .mk) ⟨[(0,am (cL yJ) lists),(3,am (cL yJ) out),(4,li (i:Int)),(5,.own 2 (zA (α:=List Pattern) next10)),(6,li (k:Int)),(7,li (j:Int))],[.dead,.dead,.elems 1 (zB (cL yJ) next10)]⟩ (hold Q .mk)):=by
 refine F.f106.partial_correctness lists out i k
  _
  ?_
 ·intro _f_f106 ih_f106 next10 j o hF
  refine ZJ rfl fun Q hq hk hs=> ?_
  have b0:=hk 0
  simp -dsimp at b0
  have b3:=hk 3
  simp -dsimp at b3
  have d2:=hs 2 _ rfl
  simp -dsimp[zS]at d2
  clear hk hs
  refine eN ?_
  have hF:=ob hF;obtain⟨x,e11,hF⟩:=hF
  have le11:=ZD e11
  repeat first|refine cg ?_|simp -dsimp[↓e11]
  revert hF;refine aS ?_ ?_<;>intro h12 q13 hF
  ·have z14:((j:Int)<(x.length:Int)):=auz
   repeat first|refine cg ?_|simp -dsimp[↓e11,h12,z14]
   revert hF;refine aS ?_ ?_<;>intro h15 q16 hF
   ·have z17:((next10.length:Int)<=400):=auz
    repeat first|refine cg ?_|simp -dsimp[↓e11,h15,z17]
    refine zR ?_
    refine zO [] [(1,14)] [(14,1)] 1 14 rfl rfl (by kernel_rfl) ?_ ?_
    ·refine zO [(1,14)] [(1,14),(6,14)] [(1,14),(14,6)] 6 14 rfl rfl (by kernel_rfl) ?_ ?_
     ·refine zN [(1,14),(6,14)] [0,1,2,3,4,5,6,7,8,9,10,11,12,13,14,15,16,17,18] [] [(0,5),(0,6),(0,1),(0,1),(0,1),(0,1),(0,6),(0,2),(0,2),(0,2),(0,2),(0,2),(0,2),(0,2),(0,6),(0,6),(0,6),(0,6),(6,6)] [1,1,1,1,0,0,1,1,1,0,0,1,0,0,1,1,1,1,1] follows (by kernel_rfl) (by kernel_rfl) (by kernel_rfl) (by kernel_rfl) ?_
      have hF:=ob hF;obtain⟨x18,e19,hF⟩:=hF
      have le19:=ZD e19
      have hF:=oc hF;obtain⟨c20,hF⟩:=hF
      have hF:=ob hF;obtain⟨x21,e22,hF⟩:=hF
      have le22:=ZD e22
      have hF:=oc hF;obtain⟨c23,hF⟩:=hF
      have hF:=oc hF;obtain⟨c24,hF⟩:=hF
      have hF:=oc hF;obtain⟨c25,hF⟩:=hF
      have w26:i64.wrap ((j:Int)+1)=(j:Int)+1:=ZF (by omega) (by omega)
      repeat first|refine cg ?_|simp -dsimp[↓e11,↓e19,↓e22,w26]
      refine zT ((ih_f106 (next10++[x18++[x21]]) (j+1) o hF) _ rfl _ hq)
     ·have hF:=ob hF;obtain⟨x18,e19,hF⟩:=hF
      have hF:=oc hF;obtain⟨c20,hF⟩:=hF
      have hF:=ob hF;obtain⟨x21,e22,hF⟩:=hF
      have hF:=oc hF;obtain⟨c23,hF⟩:=hF
      have hF:=oc hF;obtain⟨c24,hF⟩:=hF
      refine zN [(1,14),(14,6)] [0,1,2,3,4,5,7,8,9,10,11,12,13,14,6,15,16,17,18] [] [(0,5),(0,6),(0,2),(0,2),(0,2),(0,2),(0,1),(0,1),(0,1),(0,1),(0,1),(0,1),(0,1),(0,6),(0,6),(0,6),(0,6),(0,6),(6,6)] [1,1,1,1,0,0,1,1,0,0,1,0,0,1,1,1,1,1,1] follows (by kernel_rfl) (by kernel_rfl) (by kernel_rfl) (by kernel_rfl) ?_
      have le19:=ZD e19
      have le22:=ZD e22
      have hF:=oc hF;obtain⟨c25,hF⟩:=hF
      have w26:i64.wrap ((j:Int)+1)=(j:Int)+1:=ZF (by omega) (by omega)
      repeat first|refine cg ?_|simp -dsimp[↓e11,↓e19,↓e22,w26]
      refine zT ((ih_f106 (next10++[x18++[x21]]) (j+1) o hF) _ rfl _ hq)
    ·have hF:=ob hF;obtain⟨x18,e19,hF⟩:=hF
     have hF:=oc hF;obtain⟨c20,hF⟩:=hF
     have hF:=ob hF;obtain⟨x21,e22,hF⟩:=hF
     have hF:=oc hF;obtain⟨c23,hF⟩:=hF
     have hF:=oc hF;obtain⟨c24,hF⟩:=hF
     refine zN [(14,1)] [0,2,3,4,5,7,8,9,10,11,12,13,14,1,6,15,16,17,18] [] [(0,5),(0,2),(0,2),(0,2),(0,2),(0,0),(0,0),(0,0),(0,0),(0,0),(0,0),(0,0),(0,6),(0,6),(0,6),(0,6),(0,6),(0,6),(6,6)] [1,1,1,0,0,1,1,1,1,1,1,1,1,1,1,1,1,1,1] follows (by kernel_rfl) (by kernel_rfl) (by kernel_rfl) (by kernel_rfl) ?_
     have le19:=ZD e19
     have le22:=ZD e22
     have hF:=oc hF;obtain⟨c25,hF⟩:=hF
     have w26:i64.wrap ((j:Int)+1)=(j:Int)+1:=ZF (by omega) (by omega)
     repeat first|refine cg ?_|simp -dsimp[↓e11,↓e19,↓e22,w26]
     refine zT ((ih_f106 (next10++[x18++[x21]]) (j+1) o hF) _ rfl _ hq)
   ·have z17:¬((next10.length:Int)<=400):=auz
    cases hF
    repeat first|refine cg ?_|simp -dsimp[↓e11,h15,q16,z17]
    refine zU hq
  ·have z14:¬((j:Int)<(x.length:Int)):=auz
   cases hF
   repeat first|refine cg ?_|simp -dsimp[↓e11,h12,q13,z14]
   refine zU hq
theorem CC.f107 (lists:List (List Pattern))(out:List (List Pattern))(i:Nat):(∀(next:List (List Pattern)) (k:Nat) (o:List (List Pattern)),F.f107 lists out i next k=some o->∀(c:Code),Zb [1,1,0,1,0,0,1,0,0,1,0,1,0,0] (ZK Tryz.f61)=some c->∀(Q:Exit->ASt->Prop),(Q (.exit 2) ⟨[(0,am (cL yJ) lists),(4,li (i:Int)),(5,.own 2 (zA (α:=List Pattern) o))],[.dead,.dead,.elems 1 (zB (cL yJ) o)]⟩)->ALoopU zQ B 0 62 (hold c .mk) ⟨[(0,am (cL yJ) lists),(3,am (cL yJ) out),(4,li (i:Int)),(5,.own 2 (zA (α:=List Pattern) next)),(6,li (k:Int))],[.dead,.dead,.elems 1 (zB (cL yJ) next)]⟩ (hold Q .mk)):=by
 refine F.f107.partial_correctness lists out i
  _
  ?_
 ·intro _f_f107 ih_f107 next k o hF
  refine ZJ rfl fun Q hq hk hs=> ?_
  have b0:=hk 0
  simp -dsimp at b0
  have b3:=hk 3
  simp -dsimp at b3
  have d2:=hs 2 _ rfl
  simp -dsimp[zS]at d2
  clear hk hs
  refine eN ?_
  repeat first|refine cg ?_|simp -dsimp
  revert hF;refine aS ?_ ?_<;>intro h4 q5 hF
  ·have z6:((k:Int)<(out.length:Int)):=auz
   repeat first|refine cg ?_|simp -dsimp[h4,z6]
   revert hF;refine aS ?_ ?_<;>intro h7 q8 hF
   ·have z9:((next.length:Int)<=400):=auz
    repeat first|refine cg ?_|simp -dsimp[h7,z9]
    have hF:=ob hF;obtain⟨o',ho27,hF⟩:=hF
    refine zV (((CC.f106 B hB1 hB2 lists out i k) next 0 o' ho27) _ rfl _ ?_)
    have hF:=oc hF;obtain⟨c28,hF⟩:=hF
    have w29:i64.wrap ((k:Int)+1)=(k:Int)+1:=ZF (by omega) (by omega)
    repeat first|refine cg ?_|simp -dsimp[w29]
    refine zT ((ih_f107 o' (k+1) o hF) _ rfl _ hq)
   ·have z9:¬((next.length:Int)<=400):=auz
    cases hF
    repeat first|refine cg ?_|simp -dsimp[h7,q8,z9]
    refine zU hq
  ·have z6:¬((k:Int)<(out.length:Int)):=auz
   cases hF
   repeat first|refine cg ?_|simp -dsimp[h4,q5,z6]
   refine zU hq
theorem CC.f108 (lists:List (List Pattern)):(∀(out:List (List Pattern)) (i:Nat) (o:List (List Pattern)),F.f108 lists out i=some o->∀(c:Code),Zb [1,1,0,1,0,0] (ZK Tryz.f61)=some c->∀(Q:Exit->ASt->Prop),(Q (.exit 0) ⟨[(3,am (cL yJ) o)],[]⟩)->ALoopU zQ B 0 62 (hold c .mk) ⟨[(0,am (cL yJ) lists),(3,am (cL yJ) out),(4,li (i:Int))],[.dead,.dead]⟩ (hold Q .mk)):=by
 refine F.f108.partial_correctness lists
  _
  ?_
 ·intro _f_f108 ih_f108 out i o hF
  refine ZJ rfl fun Q hq hk hs=> ?_
  have b0:=hk 0
  simp -dsimp at b0
  have b3:=hk 3
  simp -dsimp at b3
  clear hk hs
  refine eN ?_
  repeat first|refine cg ?_|simp -dsimp
  revert hF;refine aS ?_ ?_<;>intro h1 q2 hF
  ·have z3:((i:Int)<(lists.length:Int)):=auz
   repeat first|refine cg ?_|simp -dsimp[h1,z3]
   have hF:=ob hF;obtain⟨o'31,ho30,hF⟩:=hF
   refine zV (((CC.f107 B hB1 hB2 lists out i) [] 0 o'31 ho30) _ rfl _ ?_)
   have hF:=oc hF;obtain⟨c32,hF⟩:=hF
   have w33:i64.wrap ((i:Int)+1)=(i:Int)+1:=ZF (by omega) (by omega)
   repeat first|refine cg ?_|simp -dsimp[w33]
   refine aG ⟨[(0,.arr (zB (cL yJ) lists)),(3,.arr (zB (cL yJ) o'31)),(4,.lit (.int .i64 ((i+1):Int)))],[.dead,.dead]⟩ (by refine zY (zZ 3 (l:=2) (n:=zA (α:=List Pattern) o'31) (sz:=1) (es:=zB (cL yJ) o'31) (by simp) (by simp) (by simp) (by simp)) ?_;exact(gT (by simp) (by simp_all))) ?_
   exact(ih_f108 o'31 (i+1) o hF) _ rfl _ hq
  ·have z3:¬((i:Int)<(lists.length:Int)):=auz
   cases hF
   repeat first|refine cg ?_|simp -dsimp[h1,q2,z3]
   refine zU hq
theorem C.f109 (lists:List (List Pattern))(r:List (List Pattern))(hF:F.f109 lists=some r):PureCall zQ B 61 [am (cL yJ) lists] (am (cL yJ) r):=by
 unfold F.f109 at hF
 refine zJ func61 rfl ntmps61 ?_
 repeat first|refine cg ?_|simp -dsimp
 have hF:=ob hF;obtain⟨o'35,ho34,hF⟩:=hF
 refine zW ⟨[(0,.arr (zB (cL yJ) lists)),(3,.arr (zB (cL yJ) [[]])),(4,.lit (.int .i64 0))],[.dead,.dead]⟩ (by refine zY (zZ 3 (l:=1) (n:=zA (α:=List Pattern) [[]]) (sz:=1) (es:=zB (cL yJ) [[]]) (by simp) (by simp) (by simp) (by simp)) ?_;exact(gT (by simp) (by simp -dsimp))) ?_
 refine((CC.f108 B hB1 hB2 lists) [[]] 0 o'35 ho34) _ rfl _ ?_
 cases hF
 repeat first|refine cg ?_|simp -dsimp
theorem CC.spec_l3Split__o0_l2 (p:Pattern)(v24:List (List Pattern)):(∀(out:List Pattern) (i26:Nat) (o:List Pattern),F.f110 p v24 out i26=some o->∀(c:Code),Zb [1,1,1,1,1,1,0,1,0,0] (ZK Tryz.f35)=some c->∀(Q:Exit->ASt->Prop),(Q (.exit 2) ⟨[(7,.own 2 (zA (α:=Pattern) o))],[.dead,.dead,.elems 6 (zB yJ o)]⟩)->ALoopU zQ B 0 67 (hold c .mk) ⟨[(1,.ptr 0 0),(6,am (cL yJ) v24),(7,.own 2 (zA (α:=Pattern) out)),(8,li (i26:Int))],[.cells [li p.op,li p.ctor,li p.n,li p.m,li p.var,am yJ p.kids],.dead,.elems 6 (zB yJ out)]⟩ (hold Q .mk)):=by
 refine F.f110.partial_correctness p v24
  _
  ?_
 ·intro _f_spec_l3Split__o0_l2 ih_spec_l3Split__o0_l2 out i26 o hF
  refine ZJ rfl fun Q hq hk hs=> ?_
  have b6:=hk 6
  simp -dsimp at b6
  have d0:=hs 0 _ rfl
  simp -dsimp[zS]at d0
  have d2:=hs 2 _ rfl
  simp -dsimp[zS]at d2
  clear hk hs
  refine eN ?_
  repeat first|refine cg ?_|simp -dsimp
  revert hF;refine aS ?_ ?_<;>intro h27 q28 hF
  ·have z29:((i26:Int)<(v24.length:Int)):=auz
   have hF:=ob hF;obtain⟨x30,e31,hF⟩:=hF
   have le31:=ZD e31
   have hF:=oc hF;obtain⟨c32,hF⟩:=hF
   have w33:i64.wrap ((i26:Int)+1)=(i26:Int)+1:=ZF (by omega) (by omega)
   repeat first|refine cg ?_|simp -dsimp[h27,z29,↓e31,w33]
   refine zT ((ih_spec_l3Split__o0_l2 (out++[(⟨p.op,p.ctor,p.n,p.m,p.var,x30⟩:Pattern)]) (i26+1) o hF) _ rfl _ hq)
  ·have z29:¬((i26:Int)<(v24.length:Int)):=auz
   cases hF
   repeat first|refine cg ?_|simp -dsimp[h27,q28,z29]
   refine zU hq
theorem CC.spec_l3Split__o0  :(∀(p:Pattern) (r:List Pattern),F.f111 p=some r->BCall zQ B 35 [] [.agg [li p.op,li p.ctor,li p.n,li p.m,li p.var,am yJ p.kids]] (.own 0 (zA (α:=Pattern) r)) [.elems 6 (zB yJ r)])/\
  (∀(p:Pattern) (lists:List (List Pattern)) (i:Nat) (o:List (List Pattern)),F.f112 p lists i=some o->∀(c:Code),Zb [1,1,1,0,1,0,0] (ZK Tryz.f35)=some c->∀(Q:Exit->ASt->Prop),(Q (.exit 0) ⟨[(1,.ptr 0 0),(4,.own 1 (zA (α:=List Pattern) o))],[.cells [li p.op,li p.ctor,li p.n,li p.m,li p.var,am yJ p.kids],.elems 1 (zB (cL yJ) o)]⟩)->ALoopU zQ B 0 67 (hold c .mk) ⟨[(1,.ptr 0 0),(4,.own 1 (zA (α:=List Pattern) lists)),(5,li (i:Int))],[.cells [li p.op,li p.ctor,li p.n,li p.m,li p.var,am yJ p.kids],.elems 1 (zB (cL yJ) lists)]⟩ (hold Q .mk)):=by
 refine F.f111.mutual_partial_correctness 
  _ _
  ?_ ?_
 ·intro _f_spec_l3Split__o0 _f_spec_l3Split__o0_l1 ih_spec_l3Split__o0 ih_spec_l3Split__o0_l1 p r hF
  refine yL (τ1:=[]) (ys:=[.own 0 (zA (α:=Pattern) r)]) (news:=[(6,zB yJ r)]) func35 (by kernel_rfl) rfl ntmps35 (by simp) rfl rfl (by simp) (by simp) (by simp) (by simp) (by simp) (by simp) (gR _) ?_
  repeat first|refine cg ?_|simp -dsimp
  revert hF;refine aS ?_ ?_<;>intro h1 q2 hF
  ·repeat first|refine cg ?_|simp -dsimp[h1]
   refine zL [35] [(0,0),(0,0),(0,0),(0,0),(0,3),(0,1),(0,1),(0,1),(0,1),(0,3),(0,3),(3,3)] [1,1,1,1,1,0,2,0,0,1,1,1] follows ?_
   have hF:=ob hF;obtain⟨x,e3,hF⟩:=hF
   have le3:=ZD e3
   repeat first|refine cg ?_|simp -dsimp[↓e3]
   have hF:=ob hF;obtain⟨v,e4,hF⟩:=hF
   refine((ih_spec_l3Split__o0 x v e4)).ego (pl [1]) (by simp) (by simp) (by intro i j hi;simp at hi) (by intro i hi hi';simp at hi hi';have hi:i=0:=(by omega);rcases hi with rfl<;>simp[pl]) (by simp_all) (by simp_all) ?_
   have hF:=ob hF;obtain⟨x5,e6,hF⟩:=hF
   have le6:=ZD e6
   repeat first|refine cg ?_|simp -dsimp[↓e6]
   have hF:=ob hF;obtain⟨v7,e8,hF⟩:=hF
   refine((ih_spec_l3Split__o0 x5 v7 e8)).ego (pl [2]) (by simp) (by simp) (by intro i j hi;simp at hi) (by intro i hi hi';simp at hi hi';have hi:i=0:=(by omega);rcases hi with rfl<;>simp[pl]) (by simp_all) (by simp_all) ?_
   have hF:=oc hF;obtain⟨c9,hF⟩:=hF
   repeat first|refine cg ?_|simp -dsimp
   revert hF;refine aS ?_ ?_<;>intro h10 q11 hF
   ·have z12:(401<(((v++v7).length:Nat):Int)):=auz
    have hF:=oc hF;obtain⟨c13,hF⟩:=hF
    cases hF
    repeat first|refine cg ?_|simp -dsimp[h10,z12]
    all_goals(try first|omega|rfl|(simp;done)|(simp only[zC,zD]at*;omega)|simp)
   ·have z12:¬(401<(((v++v7).length:Nat):Int)):=auz
    cases hF
    repeat first|refine cg ?_|simp -dsimp[h10,q11,z12]
    all_goals(try first|omega|rfl|(simp;done)|(simp only[zC,zD]at*;omega)|simp)
  ·repeat first|refine cg ?_|simp -dsimp[q2]
   have hF:=ob hF;obtain⟨o',ho23,hF⟩:=hF
   refine zV ((ih_spec_l3Split__o0_l1 p [] 0 o' ho23) _ rfl _ ?_)
   repeat first|refine cg ?_|simp -dsimp
   have hF:=ob hF;obtain⟨v24,e25,hF⟩:=hF
   refine yE ?_ ((C.f109 B hB1 hB2 o' v24 e25)).ent
   repeat first|refine cg ?_|simp -dsimp
   refine((C.f109 B hB1 hB2 o' v24 e25)).goI ?_
   repeat first|refine cg ?_|simp -dsimp
   have hF:=ob hF;obtain⟨o'35,ho34,hF⟩:=hF
   refine zV (((CC.spec_l3Split__o0_l2 B hB1 hB2 p v24) [] 0 o'35 ho34) _ rfl _ ?_)
   cases hF
   repeat first|refine cg ?_|simp -dsimp
   all_goals(try first|omega|rfl|(simp;done)|(simp only[zC,zD]at*;omega)|simp)
 ·intro _f_spec_l3Split__o0 _f_spec_l3Split__o0_l1 ih_spec_l3Split__o0 ih_spec_l3Split__o0_l1 p lists i o hF
  refine ZJ rfl fun Q hq hk hs=> ?_
  have d0:=hs 0 _ rfl
  simp -dsimp[zS]at d0
  have d1:=hs 1 _ rfl
  simp -dsimp[zS]at d1
  clear hk hs
  refine eN ?_
  repeat first|refine cg ?_|simp -dsimp
  revert hF;refine aS ?_ ?_<;>intro h14 q15 hF
  ·have z16:((i:Int)<(p.kids.length:Int)):=auz
   have hF:=ob hF;obtain⟨x17,e18,hF⟩:=hF
   have le18:=ZD e18
   repeat first|refine cg ?_|simp -dsimp[h14,z16,↓e18]
   have hF:=ob hF;obtain⟨v19,e20,hF⟩:=hF
   refine((ih_spec_l3Split__o0 x17 v19 e20)).go (pl [2]) (by simp) (by simp) (by intro i j hi;simp at hi) (by intro i hi hi';simp at hi hi';have hi:i=0:=(by omega);rcases hi with rfl<;>simp[pl]) (by simp_all) (by simp_all) ?_
   have hF:=oc hF;obtain⟨c21,hF⟩:=hF
   have w22:i64.wrap ((i:Int)+1)=(i:Int)+1:=ZF (by omega) (by omega)
   repeat first|refine cg ?_|simp -dsimp[w22]
   refine zT ((ih_spec_l3Split__o0_l1 p (lists++[v19]) (i+1) o hF) _ rfl _ hq)
  ·have z16:¬((i:Int)<(p.kids.length:Int)):=auz
   cases hF
   repeat first|refine cg ?_|simp -dsimp[h14,q15,z16]
   refine zU hq
theorem CC.f113 (row:ZA)(path:List Int):(∀(z:List PathBind) (z1:Int) (z2:Int) (z3:Int) (z4:Int) (z5:Int) (z6:List Pattern) (o:(List PathBind)×Int×Int×Int×Int×Int×(List Pattern)),F.f113 row path z z1 z2 z3 z4 z5 z6=some o->∀(c:Code),Zb [1,0,0,0] (ZK Tryz.f157)=some c->∀(Q:Exit->ASt->Prop),(Q (.exit 0) ⟨[(2,am cI path),(3,.ptr 0 0),(4,.ptr 1 0),(6,.ptr 2 0),(7,.ptr 3 0)],[.cells [li row.f0,am yJ row.f1,am yO o.1],.cells [li o.2.1,li o.2.2.1,li o.2.2.2.1,li o.2.2.2.2.1,li o.2.2.2.2.2.1,am yJ o.2.2.2.2.2.2],.cells [li 0,.lit (.slice none 0 0),.lit (.slice none 0 0)],.cells [li 0,li 0,li 0,li 0,li 0,.lit (.slice none 0 0)]]⟩)->ALoopU zQ B 0 48 (hold c .mk) ⟨[(2,am cI path),(3,.ptr 0 0),(4,.ptr 1 0),(6,.ptr 2 0),(7,.ptr 3 0)],[.cells [li row.f0,am yJ row.f1,am yO z],.cells [li z1,li z2,li z3,li z4,li z5,am yJ z6],.cells [li 0,.lit (.slice none 0 0),.lit (.slice none 0 0)],.cells [li 0,li 0,li 0,li 0,li 0,.lit (.slice none 0 0)]]⟩ (hold Q .mk)):=by
 refine F.f113.partial_correctness row path
  _
  ?_
 ·intro _f_f113 ih_f113 z z1 z2 z3 z4 z5 z6 o hF
  refine ZJ rfl fun Q hq hk hs=> ?_
  have b2:=hk 2
  simp -dsimp at b2
  have d0:=hs 0 _ rfl
  simp -dsimp[zS]at d0
  have d1:=hs 1 _ rfl
  simp -dsimp[zS]at d1
  clear hk hs
  refine eN ?_
  repeat first|refine cg ?_|simp -dsimp
  revert hF;refine aS ?_ ?_<;>intro h7 q8 hF
  ·repeat first|refine cg ?_|simp -dsimp[eq_true h7]
   refine zR ?_
   refine zO [] [(0,6)] [(6,0)] 0 6 rfl rfl (by kernel_rfl) ?_ ?_
   ·refine zO [(0,6)] [(0,6),(3,6)] [(0,6),(6,3)] 3 6 rfl rfl (by kernel_rfl) ?_ ?_
    ·refine zN [(0,6),(3,6)] [0,1,2,3,4,5,6,7,8,9,10,11,12,13] [1000074] [(0,8),(0,1),(0,1),(0,8),(0,4),(0,4),(0,8),(0,3),(0,8),(0,8),(0,8),(0,8),(7,7),(0,8)] [1,0,2,1,0,2,1,1,1,1,1,1,1,1] follows (by kernel_rfl) (by kernel_rfl) (by kernel_rfl) (by kernel_rfl) ?_
     have hF:=oc hF;obtain⟨c9,hF⟩:=hF
     have hF:=oc hF;obtain⟨c10,hF⟩:=hF
     have hF:=oc hF;obtain⟨c11,hF⟩:=hF
     have hF:=ob hF;obtain⟨x,e12,hF⟩:=hF
     have le12:=ZD e12
     repeat first|refine cg ?_|simp -dsimp[↓e12]
     refine aG ⟨[(2,.arr (zB cI path)),(3,.ptr 0 0),(4,.ptr 1 0),(6,.ptr 2 0),(7,.ptr 3 0)],[.cells [.lit (.int .i64 row.f0),.arr (zB yJ row.f1),.arr (zB yO (z++[(⟨z5,path⟩:PathBind)]))],.cells [.lit (.int .i64 x.op),.lit (.int .i64 x.ctor),.lit (.int .i64 x.n),.lit (.int .i64 x.m),.lit (.int .i64 x.var),.arr (zB yJ x.kids)],.cells [.lit (.int .i64 0),.lit (.slice none 0 0),.lit (.slice none 0 0)],.cells [.lit (.int .i64 0),.lit (.int .i64 0),.lit (.int .i64 0),.lit (.int .i64 0),.lit (.int .i64 0),.lit (.slice none 0 0)]]⟩ (by refine zY (yB 0 2 (l2:=4) (n:=zA (α:=PathBind) (z++[(⟨z5,path⟩:PathBind)])) (sz:=2) (cs:=[.lit (.int .i64 row.f0),.arr (zB yJ row.f1),.own 4 (zA (α:=PathBind) (z++[(⟨z5,path⟩:PathBind)]))]) (es:=zB yO (z++[(⟨z5,path⟩:PathBind)])) (by simp) (by simp) (by simp) (by simp) (by simp)) ?_;exact(gT (by simp) (by simp_all))) ?_
     exact(ih_f113 (z++[(⟨z5,path⟩:PathBind)]) x.op x.ctor x.n x.m x.var x.kids o hF) _ rfl _ hq
    ·refine zN [(0,6),(6,3)] [0,1,2,4,5,6,3,7,8,9,10,11,12,13] [1000074] [(0,8),(0,2),(0,2),(0,4),(0,4),(0,8),(0,8),(0,3),(0,8),(0,8),(0,8),(0,8),(7,7),(0,8)] [1,0,2,0,2,1,1,1,1,1,1,1,1,1] follows (by kernel_rfl) (by kernel_rfl) (by kernel_rfl) (by kernel_rfl) ?_
     have hF:=oc hF;obtain⟨c9,hF⟩:=hF
     have hF:=oc hF;obtain⟨c10,hF⟩:=hF
     have hF:=oc hF;obtain⟨c11,hF⟩:=hF
     have hF:=ob hF;obtain⟨x,e12,hF⟩:=hF
     have le12:=ZD e12
     repeat first|refine cg ?_|simp -dsimp[↓e12]
     refine aG ⟨[(2,.arr (zB cI path)),(3,.ptr 0 0),(4,.ptr 1 0),(6,.ptr 2 0),(7,.ptr 3 0)],[.cells [.lit (.int .i64 row.f0),.arr (zB yJ row.f1),.arr (zB yO (z++[(⟨z5,path⟩:PathBind)]))],.cells [.lit (.int .i64 x.op),.lit (.int .i64 x.ctor),.lit (.int .i64 x.n),.lit (.int .i64 x.m),.lit (.int .i64 x.var),.arr (zB yJ x.kids)],.cells [.lit (.int .i64 0),.lit (.slice none 0 0),.lit (.slice none 0 0)],.cells [.lit (.int .i64 0),.lit (.int .i64 0),.lit (.int .i64 0),.lit (.int .i64 0),.lit (.int .i64 0),.lit (.slice none 0 0)]]⟩ (by refine zY (yB 0 2 (l2:=4) (n:=zA (α:=PathBind) (z++[(⟨z5,path⟩:PathBind)])) (sz:=2) (cs:=[.lit (.int .i64 row.f0),.arr (zB yJ row.f1),.own 4 (zA (α:=PathBind) (z++[(⟨z5,path⟩:PathBind)]))]) (es:=zB yO (z++[(⟨z5,path⟩:PathBind)])) (by simp) (by simp) (by simp) (by simp) (by simp)) ?_;exact(gT (by simp) (by simp_all))) ?_
     exact(ih_f113 (z++[(⟨z5,path⟩:PathBind)]) x.op x.ctor x.n x.m x.var x.kids o hF) _ rfl _ hq
   ·refine zN [(6,0)] [1,2,4,5,6,0,3,7,8,9,10,11,12,13] [1000074] [(0,2),(0,2),(0,4),(0,4),(0,8),(0,8),(0,8),(0,3),(0,8),(0,8),(0,8),(0,8),(7,7),(0,8)] [0,2,0,2,1,1,1,1,1,1,1,1,1,1] follows (by kernel_rfl) (by kernel_rfl) (by kernel_rfl) (by kernel_rfl) ?_
    have hF:=oc hF;obtain⟨c9,hF⟩:=hF
    have hF:=oc hF;obtain⟨c10,hF⟩:=hF
    have hF:=oc hF;obtain⟨c11,hF⟩:=hF
    have hF:=ob hF;obtain⟨x,e12,hF⟩:=hF
    have le12:=ZD e12
    repeat first|refine cg ?_|simp -dsimp[↓e12]
    refine aG ⟨[(2,.arr (zB cI path)),(3,.ptr 0 0),(4,.ptr 1 0),(6,.ptr 2 0),(7,.ptr 3 0)],[.cells [.lit (.int .i64 row.f0),.arr (zB yJ row.f1),.arr (zB yO (z++[(⟨z5,path⟩:PathBind)]))],.cells [.lit (.int .i64 x.op),.lit (.int .i64 x.ctor),.lit (.int .i64 x.n),.lit (.int .i64 x.m),.lit (.int .i64 x.var),.arr (zB yJ x.kids)],.cells [.lit (.int .i64 0),.lit (.slice none 0 0),.lit (.slice none 0 0)],.cells [.lit (.int .i64 0),.lit (.int .i64 0),.lit (.int .i64 0),.lit (.int .i64 0),.lit (.int .i64 0),.lit (.slice none 0 0)]]⟩ (by refine zY (yB 0 2 (l2:=5) (n:=zA (α:=PathBind) (z++[(⟨z5,path⟩:PathBind)])) (sz:=2) (cs:=[.lit (.int .i64 row.f0),.arr (zB yJ row.f1),.own 5 (zA (α:=PathBind) (z++[(⟨z5,path⟩:PathBind)]))]) (es:=zB yO (z++[(⟨z5,path⟩:PathBind)])) (by simp) (by simp) (by simp) (by simp) (by simp)) ?_;exact(gT (by simp) (by simp_all))) ?_
    exact(ih_f113 (z++[(⟨z5,path⟩:PathBind)]) x.op x.ctor x.n x.m x.var x.kids o hF) _ rfl _ hq
  ·cases hF
   repeat first|refine cg ?_|simp -dsimp[h7,q8]
   refine zU hq
theorem C.f114 (row:ZA)(p:Pattern)(path:List Int)(r:ZA×Pattern)(hF:F.f114 row p path=some r):PureCall zQ B 157 [.agg [li row.f0,am yJ row.f1,am yO row.f2],.agg [li p.op,li p.ctor,li p.n,li p.m,li p.var,am yJ p.kids],am cI path] (.tup [.agg [li r.1.f0,am yJ r.1.f1,am yO r.1.f2],.agg [li r.2.op,li r.2.ctor,li r.2.n,li r.2.m,li r.2.var,am yJ r.2.kids]]):=by
 unfold F.f114 at hF
 refine zJ func157 rfl ntmps157 ?_
 repeat first|refine cg ?_|simp -dsimp
 have hF:=ob hF;obtain⟨o',ho13,hF⟩:=hF
 refine zV (((CC.f113 B hB1 hB2 row path) row.f2 p.op p.ctor p.n p.m p.var p.kids o' ho13) _ rfl _ ?_)
 repeat first|refine cg ?_|simp -dsimp
 revert hF;refine aS ?_ ?_<;>intro h14 q15 hF
 ·repeat first|refine cg ?_|simp -dsimp[h14]
  refine zR ?_
  refine zO [] [(0,6)] [(6,0)] 0 6 rfl rfl (by kernel_rfl) ?_ ?_
  ·refine zO [(0,6)] [(0,6),(3,6)] [(0,6),(6,3)] 3 6 rfl rfl (by kernel_rfl) ?_ ?_
   ·refine zN [(0,6),(3,6)] [0,1,2,3,4,5,6,7,8,9,10,11,12,13] [1000074] [(0,8),(0,1),(0,1),(0,8),(0,4),(0,4),(0,8),(0,3),(0,8),(0,8),(0,8),(0,8),(7,7),(0,8)] [1,0,2,1,0,2,1,1,1,1,1,1,1,1] follows (by kernel_rfl) (by kernel_rfl) (by kernel_rfl) (by kernel_rfl) ?_
    have hF:=oc hF;obtain⟨c16,hF⟩:=hF
    have hF:=oc hF;obtain⟨c17,hF⟩:=hF
    have hF:=oc hF;obtain⟨c18,hF⟩:=hF
    repeat first|refine cg ?_|simp -dsimp
    refine zL [] [(0,0),(0,2),(0,2),(0,2)] [1,1,1,1] follows ?_
    repeat first|refine cg ?_|simp -dsimp
    have hF:=ob hF;obtain⟨v,e19,hF⟩:=hF
    refine((C.f92 B hB1 hB2 v e19)).pgoW (by simp_all) (by simp) ?_
    cases hF
    repeat first|refine cg ?_|simp -dsimp
   ·refine zN [(0,6),(6,3)] [0,1,2,4,5,6,3,7,8,9,10,11,12,13] [1000074] [(0,8),(0,2),(0,2),(0,4),(0,4),(0,8),(0,8),(0,3),(0,8),(0,8),(0,8),(0,8),(7,7),(0,8)] [1,0,2,0,2,1,1,1,1,1,1,1,1,1] follows (by kernel_rfl) (by kernel_rfl) (by kernel_rfl) (by kernel_rfl) ?_
    have hF:=oc hF;obtain⟨c16,hF⟩:=hF
    have hF:=oc hF;obtain⟨c17,hF⟩:=hF
    have hF:=oc hF;obtain⟨c18,hF⟩:=hF
    repeat first|refine cg ?_|simp -dsimp
    refine zL [] [(0,0),(0,2),(0,2),(0,2)] [1,1,1,1] follows ?_
    repeat first|refine cg ?_|simp -dsimp
    have hF:=ob hF;obtain⟨v,e19,hF⟩:=hF
    refine((C.f92 B hB1 hB2 v e19)).pgoW (by simp_all) (by simp) ?_
    cases hF
    repeat first|refine cg ?_|simp -dsimp
  ·refine zN [(6,0)] [1,2,4,5,6,0,3,7,8,9,10,11,12,13] [1000074] [(0,2),(0,2),(0,4),(0,4),(0,8),(0,8),(0,8),(0,3),(0,8),(0,8),(0,8),(0,8),(7,7),(0,8)] [0,2,0,2,1,1,1,1,1,1,1,1,1,1] follows (by kernel_rfl) (by kernel_rfl) (by kernel_rfl) (by kernel_rfl) ?_
   have hF:=oc hF;obtain⟨c16,hF⟩:=hF
   have hF:=oc hF;obtain⟨c17,hF⟩:=hF
   have hF:=oc hF;obtain⟨c18,hF⟩:=hF
   repeat first|refine cg ?_|simp -dsimp
   refine zL [] [(0,0),(0,2),(0,2),(0,2)] [1,1,1,1] follows ?_
   repeat first|refine cg ?_|simp -dsimp
   have hF:=ob hF;obtain⟨v,e19,hF⟩:=hF
   refine((C.f92 B hB1 hB2 v e19)).pgoW (by simp_all) (by simp) ?_
   cases hF
   repeat first|refine cg ?_|simp -dsimp
 ·repeat first|refine cg ?_|simp -dsimp[q15]
  refine zL [] [(0,0),(0,1),(0,2),(0,2)] [1,2,1,1] follows ?_
  cases hF
  repeat first|refine cg ?_|simp -dsimp
theorem CC.f115 (list:List Clause)(i:Nat)(v:List Pattern):(∀(out6:List ZA) (k:Nat) (o:List ZA),F.f115 list i v out6 k=some o->∀(c:Code),Zb [1,1,0,1,0,0,1,0,0,1,1,0,0] (ZK Tryz.f127)=some c->∀(Q:Exit->ASt->Prop),(Q (.exit 2) ⟨[(0,am yN list),(3,.own 0 (zA (α:=ZA) o)),(4,li (i:Int))],[.elems 3 (zB ZA.c o)]⟩)->ALoopU zQ B 0 46 (hold c .mk) ⟨[(0,am yN list),(3,.own 0 (zA (α:=ZA) out6)),(4,li (i:Int)),(5,.own 1 (zA (α:=Pattern) v)),(6,li (k:Int))],[.elems 3 (zB ZA.c out6),.elems 6 (zB yJ v)]⟩ (hold Q .mk)):=by
 refine F.f115.partial_correctness list i v
  _
  ?_
 ·intro _f_f115 ih_f115 out6 k o hF
  refine ZJ rfl fun Q hq hk hs=> ?_
  have b0:=hk 0
  simp -dsimp at b0
  have d0:=hs 0 _ rfl
  simp -dsimp[zS]at d0
  have d1:=hs 1 _ rfl
  simp -dsimp[zS]at d1
  clear hk hs
  refine eN ?_
  repeat first|refine cg ?_|simp -dsimp
  revert hF;refine aS ?_ ?_<;>intro h7 q8 hF
  ·have z9:((k:Int)<(v.length:Int)):=auz
   have hF:=ob hF;obtain⟨x10,e11,hF⟩:=hF
   have le11:=ZD e11
   repeat first|refine cg ?_|simp -dsimp[h7,z9,↓e11]
   have hF:=ob hF;obtain⟨v12,e13,hF⟩:=hF
   refine((C.f114 B hB1 hB2 (⟨(i:Int),[],[]⟩:ZA) x10 [] v12 e13)).goI ?_
   have hF:=oc hF;obtain⟨c14,hF⟩:=hF
   have w15:i64.wrap ((k:Int)+1)=(k:Int)+1:=ZF (by omega) (by omega)
   repeat first|refine cg ?_|simp -dsimp[w15]
   refine zT ((ih_f115 (out6++[(⟨v12.1.f0,[v12.2],v12.1.f2⟩:ZA)]) (k+1) o hF) _ rfl _ hq)
  ·have z9:¬((k:Int)<(v.length:Int)):=auz
   cases hF
   repeat first|refine cg ?_|simp -dsimp[h7,q8,z9]
   refine zU hq
theorem CC.f116 (list:List Clause):(∀(out:List ZA) (i:Nat) (o:List ZA),F.f116 list out i=some o->∀(c:Code),Zb [1,1,0,1,0,0] (ZK Tryz.f127)=some c->∀(Q:Exit->ASt->Prop),(Q (.exit 0) ⟨[(3,.own 0 (zA (α:=ZA) o))],[.elems 3 (zB ZA.c o)]⟩)->ALoopU zQ B 0 46 (hold c .mk) ⟨[(0,am yN list),(3,.own 0 (zA (α:=ZA) out)),(4,li (i:Int))],[.elems 3 (zB ZA.c out)]⟩ (hold Q .mk)):=by
 refine F.f116.partial_correctness list
  _
  ?_
 ·intro _f_f116 ih_f116 out i o hF
  refine ZJ rfl fun Q hq hk hs=> ?_
  have b0:=hk 0
  simp -dsimp at b0
  have d0:=hs 0 _ rfl
  simp -dsimp[zS]at d0
  clear hk hs
  refine eN ?_
  repeat first|refine cg ?_|simp -dsimp
  revert hF;refine aS ?_ ?_<;>intro h1 q2 hF
  ·have z3:((i:Int)<(list.length:Int)):=auz
   have hF:=ob hF;obtain⟨x,e4,hF⟩:=hF
   have le4:=ZD e4
   repeat first|refine cg ?_|simp -dsimp[h1,z3,↓e4]
   have hF:=ob hF;obtain⟨v,e5,hF⟩:=hF
   refine(((CC.spec_l3Split__o0 B hB1 hB2).1 x.pat v e5)).go (pl [1]) (by simp) (by simp) (by intro i j hi;simp at hi) (by intro i hi hi';simp at hi hi';have hi:i=0:=(by omega);rcases hi with rfl<;>simp[pl]) (by simp_all) (by simp_all) ?_
   repeat first|refine cg ?_|simp -dsimp
   have hF:=ob hF;obtain⟨o',ho16,hF⟩:=hF
   refine zV (((CC.f115 B hB1 hB2 list i v) out 0 o' ho16) _ rfl _ ?_)
   have hF:=oc hF;obtain⟨c17,hF⟩:=hF
   have w18:i64.wrap ((i:Int)+1)=(i:Int)+1:=ZF (by omega) (by omega)
   repeat first|refine cg ?_|simp -dsimp[w18]
   refine zT ((ih_f116 o' (i+1) o hF) _ rfl _ hq)
  ·have z3:¬((i:Int)<(list.length:Int)):=auz
   cases hF
   repeat first|refine cg ?_|simp -dsimp[h1,q2,z3]
   refine zU hq
theorem C.f117 (list:List Clause)(r:List ZA)(hF:F.f117 list=some r):PureCall zQ B 127 [am yN list] (am ZA.c r):=by
 unfold F.f117 at hF
 refine zJ func127 rfl ntmps127 ?_
 repeat first|refine cg ?_|simp -dsimp
 have hF:=ob hF;obtain⟨o'20,ho19,hF⟩:=hF
 refine zV (((CC.f116 B hB1 hB2 list) [] 0 o'20 ho19) _ rfl _ ?_)
 cases hF
 repeat first|refine cg ?_|simp -dsimp
theorem CC.f118 (row:ZA):(∀(i:Nat) (o:Lo Int Unit),F.f118 row i=some o->∀(c:Code),Zb [1,0,1,0,0] (ZK Tryz.f151)=some c->∀(Q:Exit->ASt->Prop),o.post (fun r=>∀st,ZA2 zQ Tryz.f151 (fun r' _=>r'.le (li r)) .ret st->Q .ret st) (fun s=>Q (.exit 0) ⟨[],[]⟩)->ALoopU zQ B 0 19 (hold c .mk) ⟨[(1,.ptr 0 0),(3,li (i:Int))],[.cells [li row.f0,am yJ row.f1,am yO row.f2]]⟩ (hold Q .mk)):=by
 refine F.f118.partial_correctness row
  _
  ?_
 ·intro _f_f118 ih_f118 i o hF
  refine ZJ rfl fun Q hq hk hs=> ?_
  have d0:=hs 0 _ rfl
  simp -dsimp[zS]at d0
  clear hk hs
  refine eN ?_
  repeat first|refine cg ?_|simp -dsimp
  revert hF;refine aS ?_ ?_<;>intro h1 q2 hF
  ·have z3:((i:Int)<(row.f1.length:Int)):=auz
   have hF:=ob hF;obtain⟨x,e4,hF⟩:=hF
   have le4:=ZD e4
   repeat first|refine cg ?_|simp -dsimp[h1,z3,↓e4]
   revert hF;refine aN ?_ ?_<;>intro h5 q6 hF
   ·cases hF
    repeat first|refine cg ?_|simp -dsimp[h5,q6]
    refine lG _ (gR _) (hq _ ?_)
    repeat first|refine cg ?_|simp -dsimp
   ·have w7:i64.wrap ((i:Int)+1)=(i:Int)+1:=ZF (by omega) (by omega)
    repeat first|refine cg ?_|simp -dsimp[w7]
    refine zT ((ih_f118 (i+1) o hF) _ rfl _ hq)
  ·have z3:¬((i:Int)<(row.f1.length:Int)):=auz
   cases hF
   repeat first|refine cg ?_|simp -dsimp[h1,q2,z3]
   refine zU hq
theorem C.f119 (row:ZA)(r:Int)(hF:F.f119 row=some r):PureCall zQ B 151 [.agg [li row.f0,am yJ row.f1,am yO row.f2]] (li r):=by
 unfold F.f119 at hF
 refine zJ func151 rfl ntmps151 ?_
 repeat first|refine cg ?_|simp -dsimp
 have hF:=ob hF;obtain⟨o',ho8,hF⟩:=hF
 refine zV (((CC.f118 B hB1 hB2 row) 0 o' ho8) _ rfl _ ?_)
 rcases o' with r0|sx
 ·dsimp only at hF
  cases hF
  intro st h
  simpa using h
 ·dsimp only at hF
  cases hF
  repeat first|refine cg ?_|simp -dsimp
theorem CC.f120 (list:List PathBind)(n:Nat):(∀(out4:List PathBind) (i:Nat) (o:List PathBind),F.f120 list n out4 i=some o->∀(c:Code),Zb [1,1,0,1,0,0,1,0,0,1,0,0] (ZK Tryz.f63)=some c->∀(Q:Exit->ASt->Prop),(Q (.exit 2) ⟨[(0,am yO list),(3,.own 0 (zA (α:=PathBind) o)),(4,li (n:Int))],[.elems 2 (zB yO o)]⟩)->ALoopU zQ B 0 37 (hold c .mk) ⟨[(0,am yO list),(3,.own 0 (zA (α:=PathBind) out4)),(4,li (n:Int)),(5,li (i:Int))],[.elems 2 (zB yO out4)]⟩ (hold Q .mk)):=by
 refine F.f120.partial_correctness list n
  _
  ?_
 ·intro _f_f120 ih_f120 out4 i o hF
  refine ZJ rfl fun Q hq hk hs=> ?_
  have b0:=hk 0
  simp -dsimp at b0
  have d0:=hs 0 _ rfl
  simp -dsimp[zS]at d0
  clear hk hs
  refine eN ?_
  repeat first|refine cg ?_|simp -dsimp
  revert hF;refine aS ?_ ?_<;>intro h5 q6 hF
  ·have z7:((i:Int)<(list.length:Int)):=auz
   have hF:=ob hF;obtain⟨x,e8,hF⟩:=hF
   have le8:=ZD e8
   repeat first|refine cg ?_|simp -dsimp[h5,z7,↓e8]
   revert hF;refine aS ?_ ?_<;>intro h9 q10 hF
   ·have hF:=oc hF;obtain⟨c11,hF⟩:=hF
    have hF:=oc hF;obtain⟨c12,hF⟩:=hF
    have w13:i64.wrap ((i:Int)+1)=(i:Int)+1:=ZF (by omega) (by omega)
    repeat first|refine cg ?_|simp -dsimp[↓e8,h9,w13]
    refine zT ((ih_f120 (out4++[(⟨(n:Int),x.path⟩:PathBind)]) (i+1) o hF) _ rfl _ hq)
   ·have w14:i64.wrap ((i:Int)+1)=(i:Int)+1:=ZF (by omega) (by omega)
    repeat first|refine cg ?_|simp -dsimp[↓e8,h9,q10,w14]
    refine zT ((ih_f120 out4 (i+1) o hF) _ rfl _ hq)
  ·have z7:¬((i:Int)<(list.length:Int)):=auz
   cases hF
   repeat first|refine cg ?_|simp -dsimp[h5,q6,z7]
   refine zU hq
theorem CC.f121 (list:List PathBind):(∀(out:List PathBind) (n:Nat) (o:List PathBind),F.f121 list out n=some o->∀(c:Code),Zb [1,1,0,1,0,0] (ZK Tryz.f63)=some c->∀(Q:Exit->ASt->Prop),(Q (.exit 0) ⟨[(3,.own 0 (zA (α:=PathBind) o))],[.elems 2 (zB yO o)]⟩)->ALoopU zQ B 0 37 (hold c .mk) ⟨[(0,am yO list),(3,.own 0 (zA (α:=PathBind) out)),(4,li (n:Int))],[.elems 2 (zB yO out)]⟩ (hold Q .mk)):=by
 refine F.f121.partial_correctness list
  _
  ?_
 ·intro _f_f121 ih_f121 out n o hF
  refine ZJ rfl fun Q hq hk hs=> ?_
  have b0:=hk 0
  simp -dsimp at b0
  have d0:=hs 0 _ rfl
  simp -dsimp[zS]at d0
  clear hk hs
  refine eN ?_
  repeat first|refine cg ?_|simp -dsimp
  revert hF;refine aS ?_ ?_<;>intro h1 q2 hF
  ·have z3:((n:Int)<=5):=auz
   repeat first|refine cg ?_|simp -dsimp[h1,z3]
   have hF:=ob hF;obtain⟨o',ho15,hF⟩:=hF
   refine zV (((CC.f120 B hB1 hB2 list n) out 0 o' ho15) _ rfl _ ?_)
   have hF:=oc hF;obtain⟨c16,hF⟩:=hF
   have w17:i64.wrap ((n:Int)+1)=(n:Int)+1:=ZF (by omega) (by omega)
   repeat first|refine cg ?_|simp -dsimp[w17]
   refine zT ((ih_f121 o' (n+1) o hF) _ rfl _ hq)
  ·have z3:¬((n:Int)<=5):=auz
   cases hF
   repeat first|refine cg ?_|simp -dsimp[h1,q2,z3]
   refine zU hq
theorem C.f122 (list:List PathBind)(r:List PathBind)(hF:F.f122 list=some r):PureCall zQ B 63 [am yO list] (am yO r):=by
 unfold F.f122 at hF
 refine zJ func63 rfl ntmps63 ?_
 repeat first|refine cg ?_|simp -dsimp
 have hF:=ob hF;obtain⟨o'19,ho18,hF⟩:=hF
 refine zV (((CC.f121 B hB1 hB2 list) [] 0 o'19 ho18) _ rfl _ ?_)
 cases hF
 repeat first|refine cg ?_|simp -dsimp
theorem CC.f123 (rows:List ZA)(clause:Int):(∀(out:List ZA) (i:Nat) (o:List ZA),F.f123 rows clause out i=some o->∀(c:Code),Zb [1,1,0,1,0,0] (ZK Tryz.f152)=some c->∀(Q:Exit->ASt->Prop),(Q (.exit 0) ⟨[(5,.own 0 (zA (α:=ZA) o))],[.elems 3 (zB ZA.c o)]⟩)->ALoopU zQ B 0 29 (hold c .mk) ⟨[(0,am ZA.c rows),(1,li clause),(5,.own 0 (zA (α:=ZA) out)),(6,li (i:Int))],[.elems 3 (zB ZA.c out)]⟩ (hold Q .mk)):=by
 refine F.f123.partial_correctness rows clause
  _
  ?_
 ·intro _f_f123 ih_f123 out i o hF
  refine ZJ rfl fun Q hq hk hs=> ?_
  have b0:=hk 0
  simp -dsimp at b0
  have d0:=hs 0 _ rfl
  simp -dsimp[zS]at d0
  clear hk hs
  refine eN ?_
  repeat first|refine cg ?_|simp -dsimp
  revert hF;refine aS ?_ ?_<;>intro h1 q2 hF
  ·have z3:((i:Int)<(rows.length:Int)):=auz
   have hF:=ob hF;obtain⟨x,e4,hF⟩:=hF
   have le4:=ZD e4
   repeat first|refine cg ?_|simp -dsimp[h1,z3,↓e4]
   revert hF;refine aN ?_ ?_<;>intro h5 q6 hF
   ·have hF:=oc hF;obtain⟨c7,hF⟩:=hF
    have w8:i64.wrap ((i:Int)+1)=(i:Int)+1:=ZF (by omega) (by omega)
    repeat first|refine cg ?_|simp -dsimp[↓e4,h5,q6,w8]
    refine zT ((ih_f123 (out++[x]) (i+1) o hF) _ rfl _ hq)
   ·have w9:i64.wrap ((i:Int)+1)=(i:Int)+1:=ZF (by omega) (by omega)
    repeat first|refine cg ?_|simp -dsimp[↓e4,h5,q6,w9]
    refine zT ((ih_f123 out (i+1) o hF) _ rfl _ hq)
  ·have z3:¬((i:Int)<(rows.length:Int)):=auz
   cases hF
   repeat first|refine cg ?_|simp -dsimp[h1,q2,z3]
   refine zU hq
theorem C.f124 (rows:List ZA)(clause:Int)(r:List ZA)(hF:F.f124 rows clause=some r):PureCall zQ B 152 [am ZA.c rows,li clause] (am ZA.c r):=by
 unfold F.f124 at hF
 refine zJ func152 rfl ntmps152 ?_
 repeat first|refine cg ?_|simp -dsimp
 have hF:=ob hF;obtain⟨o',ho10,hF⟩:=hF
 refine zV (((CC.f123 B hB1 hB2 rows clause) [] 0 o' ho10) _ rfl _ ?_)
 cases hF
 repeat first|refine cg ?_|simp -dsimp
theorem CC.f125 (rows:List ZA)(column:Int):(∀(n:Nat) (i:Nat) (o:Nat),F.f125 rows column n i=some o->∀(c:Code),Zb [1,1,0,1,0,0] (ZK Tryz.f176)=some c->∀(Q:Exit->ASt->Prop),(Q (.exit 0) ⟨[(5,li (o:Int))],[]⟩)->ALoopU zQ B 0 26 (hold c .mk) ⟨[(0,am ZA.c rows),(1,li column),(5,li (n:Int)),(6,li (i:Int))],[]⟩ (hold Q .mk)):=by
 refine F.f125.partial_correctness rows column
  _
  ?_
 ·intro _f_f125 ih_f125 n i o hF
  refine ZJ rfl fun Q hq hk hs=> ?_
  have b0:=hk 0
  simp -dsimp at b0
  clear hk hs
  refine eN ?_
  repeat first|refine cg ?_|simp -dsimp
  revert hF;refine aS ?_ ?_<;>intro h1 q2 hF
  ·have z3:((i:Int)<(rows.length:Int)):=auz
   have hF:=ob hF;obtain⟨x,e4,hF⟩:=hF
   have le4:=ZD e4
   have hF:=ob hF;obtain⟨x5,e6a,hF⟩:=hF
   have e6a:=ZO e6a;obtain⟨ne6,e6⟩:=e6a
   have le6:=ZD e6
   repeat first|refine cg ?_|simp -dsimp[h1,z3,↓e4,↓e6]
   revert hF;refine aN ?_ ?_<;>intro h7 q8 hF
   ·have hF:=oc hF;obtain⟨c9,hF⟩:=hF
    have w10:i64.wrap ((n:Int)+1)=(n:Int)+1:=ZF (by omega) (by omega)
    have w11:i64.wrap ((i:Int)+1)=(i:Int)+1:=ZF (by omega) (by omega)
    repeat first|refine cg ?_|simp -dsimp[h7,q8,w10,w11]
    refine zT ((ih_f125 (n+1) (i+1) o hF) _ rfl _ hq)
   ·have w12:i64.wrap ((i:Int)+1)=(i:Int)+1:=ZF (by omega) (by omega)
    repeat first|refine cg ?_|simp -dsimp[h7,q8,w12]
    refine zT ((ih_f125 n (i+1) o hF) _ rfl _ hq)
  ·have z3:¬((i:Int)<(rows.length:Int)):=auz
   cases hF
   repeat first|refine cg ?_|simp -dsimp[h1,q2,z3]
   refine zU hq
theorem C.f126 (rows:List ZA)(column:Int)(r:Int)(hF:F.f126 rows column=some r):PureCall zQ B 176 [am ZA.c rows,li column] (li r):=by
 unfold F.f126 at hF
 refine zJ func176 rfl ntmps176 ?_
 repeat first|refine cg ?_|simp -dsimp
 have hF:=ob hF;obtain⟨o',ho13,hF⟩:=hF
 refine zV (((CC.f125 B hB1 hB2 rows column) 0 0 o' ho13) _ rfl _ ?_)
 cases hF
 repeat first|refine cg ?_|simp -dsimp
theorem CC.f127 (ctor:Int)(v:List Ty):(∀(out:List Pattern) (i:Nat) (o:List Pattern),F.f127 ctor v out i=some o->∀(c:Code),Zb [1,1,1,0,1,0,0] (ZK Tryz.f178)=some c->∀(Q:Exit->ASt->Prop),(Q (.exit 0) ⟨[(6,.ptr 1 0),(7,.ptr 2 0)],[.dead,.cells [li 0,li 0,li 0,li 0,li 0,.lit (.slice none 0 0)],.cells [li 4,li ctor,li 0,li 0,li 0,.own 3 (zA (α:=Pattern) o)],.elems 6 (zB yJ o)]⟩)->ALoopU zQ B 0 29 (hold c .mk) ⟨[(6,.ptr 1 0),(7,.ptr 2 0),(8,am zX v),(9,li (i:Int))],[.dead,.cells [li 0,li 0,li 0,li 0,li 0,.lit (.slice none 0 0)],.cells [li 4,li ctor,li 0,li 0,li 0,.own 3 (zA (α:=Pattern) out)],.elems 6 (zB yJ out)]⟩ (hold Q .mk)):=by
 refine F.f127.partial_correctness ctor v
  _
  ?_
 ·intro _f_f127 ih_f127 out i o hF
  refine ZJ rfl fun Q hq hk hs=> ?_
  have b8:=hk 8
  simp -dsimp at b8
  have d3:=hs 3 _ rfl
  simp -dsimp[zS]at d3
  clear hk hs
  refine eN ?_
  repeat first|refine cg ?_|simp -dsimp
  revert hF;refine aS ?_ ?_<;>intro h2 q3 hF
  ·have z4:((i:Int)<(v.length:Int)):=auz
   repeat first|refine cg ?_|simp -dsimp[h2,z4]
   refine zL [] [(0,1),(0,1),(0,3),(0,3),(0,3),(2,2),(0,3)] [0,2,1,1,1,1,1] follows ?_
   repeat first|refine cg ?_|simp -dsimp
   have hF:=ob hF;obtain⟨v5,e6,hF⟩:=hF
   refine((C.f92 B hB1 hB2 v5 e6)).pgoW (by simp_all) (by simp) ?_
   have hF:=oc hF;obtain⟨c7,hF⟩:=hF
   have w8:i64.wrap ((i:Int)+1)=(i:Int)+1:=ZF (by omega) (by omega)
   repeat first|refine cg ?_|simp -dsimp[w8]
   refine zT ((ih_f127 (out++[v5]) (i+1) o hF) _ rfl _ hq)
  ·have z4:¬((i:Int)<(v.length:Int)):=auz
   cases hF
   repeat first|refine cg ?_|simp -dsimp[h2,q3,z4]
   refine zU hq
theorem C.f128 (w:List yC)(t:Ty)(ctor:Int)(r:Pattern)(hF:F.f128 w t ctor=some r):PureCall zQ B 178 [am yD w,.agg [li t.data,li t.index],li ctor] (.agg [li r.op,li r.ctor,li r.n,li r.m,li r.var,am yJ r.kids]):=by
 unfold F.f128 at hF
 refine zJ func178 rfl ntmps178 ?_
 repeat first|refine cg ?_|simp -dsimp
 have hF:=ob hF;obtain⟨v,e1,hF⟩:=hF
 refine((C.f45 B hB1 hB2 w t ctor v e1)).goI ?_
 repeat first|refine cg ?_|simp -dsimp
 have hF:=ob hF;obtain⟨o',ho9,hF⟩:=hF
 refine zW ⟨[(6,.ptr 1 0),(7,.ptr 2 0),(8,.arr (zB zX v)),(9,.lit (.int .i64 0))],[.dead,.cells [.lit (.int .i64 0),.lit (.int .i64 0),.lit (.int .i64 0),.lit (.int .i64 0),.lit (.int .i64 0),.lit (.slice none 0 0)],.cells [.lit (.int .i64 4),.lit (.int .i64 ctor),.lit (.int .i64 0),.lit (.int .i64 0),.lit (.int .i64 0),.own 3 (zA (α:=Pattern) [])],.elems 6 (zB yJ [])]⟩ (by refine zY (yA 2 5 6 (by simp -dsimp;rfl) (by simp -dsimp)) ?_;exact(gT (by simp) (by simp -dsimp))) ?_
 refine((CC.f127 B hB1 hB2 ctor v) [] 0 o' ho9) _ rfl _ ?_
 cases hF
 repeat first|refine cg ?_|simp -dsimp
theorem CC.f129 (w:List yC)(table:List Int):(∀(t:Ty) (p:Pattern) (r:Bool),F.f129 w table t p=some r->PureCall zQ B 177 [am yD w,am cI table,.agg [li t.data,li t.index],.agg [li p.op,li p.ctor,li p.n,li p.m,li p.var,am yJ p.kids]] (.lit (.bool r)))/\
  (∀(p:Pattern) (v6:List Ty) (i:Nat) (o:Lo Bool Unit),F.f130 w table p v6 i=some o->∀(c:Code),Zb [1,1,1,1,0,1,0,0] (ZK Tryz.f177)=some c->∀(Q:Exit->ASt->Prop),o.post (fun r=>∀st,ZA2 zQ Tryz.f177 (fun r' _=>r'.le (.lit (.bool r))) .ret st->Q .ret st) (fun s=>Q (.exit 0) ⟨[],[]⟩)->ALoopU zQ B 0 45 (hold c .mk) ⟨[(0,am yD w),(1,am cI table),(7,.ptr 1 0),(9,am zX v6),(10,li (i:Int))],[.dead,.cells [li p.op,li p.ctor,li p.n,li p.m,li p.var,am yJ p.kids]]⟩ (hold Q .mk)):=by
 refine F.f129.mutual_partial_correctness w table
  _ _
  ?_ ?_
 ·intro _f_f130 ih_f130 t p r hF
  refine zJ func177 rfl ntmps177 ?_
  repeat first|refine cg ?_|simp -dsimp
  revert hF;refine aS ?_ ?_<;>intro h1 q2 hF
  ·repeat first|refine cg ?_|simp -dsimp[h1]
   have hF:=ob hF;obtain⟨v,e3,hF⟩:=hF
   refine((C.f47 B hB1 hB2 table t v e3)).goI ?_
   cases hF
   repeat first|refine cg ?_|simp -dsimp
  ·repeat first|refine cg ?_|simp -dsimp[q2]
   revert hF;refine aS ?_ ?_<;>intro h4 q5 hF
   ·cases hF
    repeat first|refine cg ?_|simp -dsimp[h4]
   ·repeat first|refine cg ?_|simp -dsimp[q5]
    have hF:=ob hF;obtain⟨v6,e7,hF⟩:=hF
    refine((C.f45 B hB1 hB2 w t p.ctor v6 e7)).goI ?_
    repeat first|refine cg ?_|simp -dsimp
    have hF:=ob hF;obtain⟨o',ho19,hF⟩:=hF
    refine zV ((ih_f130 p v6 0 o' ho19) _ rfl _ ?_)
    rcases o' with r0|sx
    ·dsimp only at hF
     cases hF
     intro st h
     simpa using h
    ·dsimp only at hF
     cases hF
     repeat first|refine cg ?_|simp -dsimp
 ·intro _f_f129 _f_f130 ih_f129 ih_f130 p v6 i o hF
  refine ZJ rfl fun Q hq hk hs=> ?_
  have b0:=hk 0
  simp -dsimp at b0
  have b1:=hk 1
  simp -dsimp at b1
  have b9:=hk 9
  simp -dsimp at b9
  have d1:=hs 1 _ rfl
  simp -dsimp[zS]at d1
  clear hk hs
  refine eN ?_
  repeat first|refine cg ?_|simp -dsimp
  revert hF;refine aS ?_ ?_<;>intro h8 q9 hF
  ·have z10:((i:Int)<(v6.length:Int)):=auz
   repeat first|refine cg ?_|simp -dsimp[h8,z10]
   refine zM follows ?_
   have hF:=ob hF;obtain⟨x,e11,hF⟩:=hF
   have le11:=ZD e11
   have hF:=ob hF;obtain⟨x12,e13,hF⟩:=hF
   have le13:=ZD e13
   repeat first|refine cg ?_|simp -dsimp[↓e11,↓e13]
   have hF:=ob hF;obtain⟨v14,e15,hF⟩:=hF
   refine((ih_f129 x x12 v14 e15)).pgoW (by simp_all) (by simp) ?_
   repeat first|refine cg ?_|simp -dsimp
   revert hF;refine aN (fun h16 q17 hF=> ?_) (fun h16 q17 hF=> ?_)
   ·cases hF
    repeat first|refine cg ?_|simp -dsimp[h16,q17]
    refine lG _ (gR _) (hq _ ?_)
    repeat first|refine cg ?_|simp -dsimp
   ·have w18:i64.wrap ((i:Int)+1)=(i:Int)+1:=ZF (by omega) (by omega)
    repeat first|refine cg ?_|simp -dsimp[w18]
    refine zT ((ih_f130 p v6 (i+1) o hF) _ rfl _ hq)
  ·have z10:¬((i:Int)<(v6.length:Int)):=auz
   cases hF
   repeat first|refine cg ?_|simp -dsimp[h8,q9,z10]
   refine zU hq
theorem CC.f131 (rows:List ZA)(at':Int)(n:Int):(∀(i:Nat) (o:Lo Bool Unit),F.f131 rows at' n i=some o->∀(c:Code),Zb [1,0,1,0,0] (ZK Tryz.f179)=some c->∀(Q:Exit->ASt->Prop),o.post (fun r=>∀st,ZA2 zQ Tryz.f179 (fun r' _=>r'.le (.lit (.bool r))) .ret st->Q .ret st) (fun s=>Q (.exit 0) ⟨[],[]⟩)->ALoopU zQ B 0 39 (hold c .mk) ⟨[(0,am ZA.c rows),(1,li at'),(2,li n),(7,li (i:Int))],[]⟩ (hold Q .mk)):=by
 refine F.f131.partial_correctness rows at' n
  _
  ?_
 ·intro _f_f131 ih_f131 i o hF
  refine ZJ rfl fun Q hq hk hs=> ?_
  have b0:=hk 0
  simp -dsimp at b0
  clear hk hs
  refine eN ?_
  repeat first|refine cg ?_|simp -dsimp
  revert hF;refine aS ?_ ?_<;>intro h1 q2 hF
  ·have z3:((i:Int)<(rows.length:Int)):=auz
   have hF:=ob hF;obtain⟨x,e4,hF⟩:=hF
   have le4:=ZD e4
   have hF:=ob hF;obtain⟨x5,e6a,hF⟩:=hF
   have e6a:=ZO e6a;obtain⟨ne6,e6⟩:=e6a
   have le6:=ZD e6
   repeat first|refine cg ?_|simp -dsimp[h1,z3,↓e4,↓e6]
   revert hF;refine aS ?_ ?_<;>intro h7 q8 hF
   ·repeat first|refine cg ?_|simp -dsimp[h1,z3,↓e4,↓e6,h7]
    revert hF;refine aN ?_ ?_<;>intro h9 q10 hF
    ·repeat first|refine cg ?_|simp -dsimp[h1,z3,↓e4,↓e6,h7,h9,q10]
     revert hF;refine aS ?_ ?_<;>intro h11 q12 hF
     ·cases hF
      repeat first|refine cg ?_|simp -dsimp[h1,z3,↓e4,↓e6,h7,h9,q10,h11]
      refine lG _ (gR _) (hq _ ?_)
      repeat first|refine cg ?_|simp -dsimp[h1,z3,↓e4,↓e6,h7,h9,q10,h11]
     ·have w13:i64.wrap ((i:Int)+1)=(i:Int)+1:=ZF (by omega) (by omega)
      repeat first|refine cg ?_|simp -dsimp[h1,z3,↓e4,↓e6,h7,h9,q10,h11,q12,w13]
      refine zT ((ih_f131 (i+1) o hF) _ rfl _ hq)
    ·cases hF
     repeat first|refine cg ?_|simp -dsimp[h1,z3,↓e4,↓e6,h7,h9,q10]
     refine lG _ (gR _) (hq _ ?_)
     repeat first|refine cg ?_|simp -dsimp[h1,z3,↓e4,↓e6,h7,h9,q10]
   ·have w14:i64.wrap ((i:Int)+1)=(i:Int)+1:=ZF (by omega) (by omega)
    repeat first|refine cg ?_|simp -dsimp[h1,z3,↓e4,↓e6,h7,q8,w14]
    refine zT ((ih_f131 (i+1) o hF) _ rfl _ hq)
  ·have z3:¬((i:Int)<(rows.length:Int)):=auz
   cases hF
   repeat first|refine cg ?_|simp -dsimp[h1,q2,z3]
   refine zU hq
theorem C.f132 (rows:List ZA)(at':Int)(n:Int)(r:Bool)(hF:F.f132 rows at' n=some r):PureCall zQ B 179 [am ZA.c rows,li at',li n] (.lit (.bool r)):=by
 unfold F.f132 at hF
 refine zJ func179 rfl ntmps179 ?_
 repeat first|refine cg ?_|simp -dsimp
 have hF:=ob hF;obtain⟨o',ho15,hF⟩:=hF
 refine zV (((CC.f131 B hB1 hB2 rows at' n) 0 o' ho15) _ rfl _ ?_)
 rcases o' with r0|sx
 ·dsimp only at hF
  cases hF
  intro st h
  simpa using h
 ·dsimp only at hF
  cases hF
  repeat first|refine cg ?_|simp -dsimp
end Go.Proofs.YtodkbabdaoeooaaGreatDoor
