/- The contracts: the code computes the functions (printed by gen.py). -/
import Derived.Test.YtnbcpgpmeeminaaDoorProg
import Derived.Test.YtnbcpgpmeeminaaDoorExactFormatNodesF
import Derived.Test.YtnbcpgpmeeminaaDoorVlBld
import Derived.Test.YtnbcpgpmeeminaaDoorShelf
namespace Go.Proofs.YtnbcpgpmeeminaaDoor
open Go Go.Proofs Go.Vl
set_option linter.all false
set_option maxRecDepth 100000
set_option maxHeartbeats 4000000
set_option synthInstance.maxSize 100000
set_option synthInstance.maxHeartbeats 4000000
attribute [local irreducible] ECallA aL AMake MLoop AgainM LeaveM awpM aopsM MutCall BCall chk abr ACall ALoop ALoopU ADraw Again Leave PCallA PCall Post awp aops PureCall hold
theorem follows :Tryd.prog.follows .mixedOrders=true:=by kernel_rfl
@[simp] theorem ti2 :tiOf Tryd.prog 2=some ⟨.word,1,[.int .i64 0]⟩:=by kernel_rfl
@[simp] theorem ti3 :tiOf Tryd.prog 3=some ⟨.word,1,[.int .i64 0]⟩:=by kernel_rfl
@[simp] theorem ti4 :tiOf Tryd.prog 4=some ⟨.word,1,[.bool false]⟩:=by kernel_rfl
@[simp] theorem ti5 :tiOf Tryd.prog 5=some ⟨.word,1,[.int .u8 0]⟩:=by kernel_rfl
@[simp] theorem ti9 :tiOf Tryd.prog 9=some ⟨.word,1,[.string ByteArray.empty]⟩:=by kernel_rfl
@[simp] theorem ti29 :tiOf Tryd.prog 29=some ⟨.slice 6 96 [.int .i64 0,.int .i64 0,.slice none 0 0,.slice none 0 0,.slice none 0 0,.int .i64 0],1,[.slice none 0 0]⟩:=by kernel_rfl
@[simp] theorem sl29 :isSl Tryd.prog 29=true:=by kernel_rfl
@[simp] theorem ti32 :tiOf Tryd.prog 32=some ⟨.slice 6 96 [.int .i64 0,.int .i64 0,.slice none 0 0,.slice none 0 0,.slice none 0 0,.int .i64 0],1,[.slice none 0 0]⟩:=by kernel_rfl
@[simp] theorem sl32 :isSl Tryd.prog 32=true:=by kernel_rfl
@[simp] theorem ti37 :tiOf Tryd.prog 37=some ⟨.slice 1 8 [.int .i64 0],1,[.slice none 0 0]⟩:=by kernel_rfl
@[simp] theorem sl37 :isSl Tryd.prog 37=true:=by kernel_rfl
@[simp] theorem ti38 :tiOf Tryd.prog 38=some ⟨.slice 2 32 [.int .i64 0,.slice none 0 0],1,[.slice none 0 0]⟩:=by kernel_rfl
@[simp] theorem sl38 :isSl Tryd.prog 38=true:=by kernel_rfl
@[simp] theorem ti42 :tiOf Tryd.prog 42=some ⟨.slice 2 32 [.int .i64 0,.slice none 0 0],1,[.slice none 0 0]⟩:=by kernel_rfl
@[simp] theorem sl42 :isSl Tryd.prog 42=true:=by kernel_rfl
@[simp] theorem ti47 :tiOf Tryd.prog 47=some ⟨.slice 1 1 [.int .u8 0],1,[.slice none 0 0]⟩:=by kernel_rfl
@[simp] theorem sl47 :isSl Tryd.prog 47=true:=by kernel_rfl
@[simp] theorem ti49 :tiOf Tryd.prog 49=some ⟨.struct [(0,1),(1,1)],2,[.pointer none,.slice none 0 0]⟩:=by kernel_rfl
@[simp] theorem ti57 :tiOf Tryd.prog 57=some ⟨.struct [(0,1),(1,1)],2,[.int .i64 0,.slice none 0 0]⟩:=by kernel_rfl
@[simp] theorem ti61 :tiOf Tryd.prog 61=some ⟨.slice 4 32 [.int .i64 0,.int .i64 0,.int .i64 0,.int .i64 0],1,[.slice none 0 0]⟩:=by kernel_rfl
@[simp] theorem sl61 :isSl Tryd.prog 61=true:=by kernel_rfl
@[simp] theorem ti63 :tiOf Tryd.prog 63=some ⟨.struct [(0,1),(1,1),(2,1),(3,1),(4,1),(5,1)],6,[.int .i64 0,.int .i64 0,.slice none 0 0,.slice none 0 0,.slice none 0 0,.int .i64 0]⟩:=by kernel_rfl
@[simp] theorem ti66 :tiOf Tryd.prog 66=some ⟨.slice 4 32 [.int .i64 0,.int .i64 0,.int .i64 0,.int .i64 0],1,[.slice none 0 0]⟩:=by kernel_rfl
@[simp] theorem sl66 :isSl Tryd.prog 66=true:=by kernel_rfl
@[simp] theorem ti68 :tiOf Tryd.prog 68=some ⟨.struct [(0,1),(1,1),(2,1),(3,1),(4,1),(5,1)],6,[.int .i64 0,.int .i64 0,.slice none 0 0,.slice none 0 0,.slice none 0 0,.int .i64 0]⟩:=by kernel_rfl
@[simp] theorem ti71 :tiOf Tryd.prog 71=some ⟨.struct [(0,1),(1,1),(2,1),(3,1)],4,[.int .i64 0,.int .i64 0,.int .i64 0,.int .i64 0]⟩:=by kernel_rfl
@[simp] theorem pr71 :quad4B Tryd.prog 71=true:=by kernel_rfl
@[simp] theorem ti88 :tiOf Tryd.prog 88=some ⟨.struct [(0,1),(1,1)],2,[.int .i64 0,.slice none 0 0]⟩:=by kernel_rfl
@[simp] theorem ti95 :tiOf Tryd.prog 95=some ⟨.struct [(0,1),(1,1),(2,1),(3,1)],4,[.int .i64 0,.int .i64 0,.int .i64 0,.int .i64 0]⟩:=by kernel_rfl
@[simp] theorem pr95 :quad4B Tryd.prog 95=true:=by kernel_rfl
attribute [simp] Tryd.underlying2 Tryd.underlying3 Tryd.underlying4 Tryd.underlying5 Tryd.underlying9 Tryd.underlying29 Tryd.underlying32 Tryd.underlying37 Tryd.underlying38 Tryd.underlying42 Tryd.underlying47 Tryd.underlying61 Tryd.underlying66 Tryd.results4 Tryd.results10 Tryd.results11 Tryd.results12 Tryd.results13 Tryd.results14 Tryd.results18 Tryd.results20 Tryd.results23 Tryd.results24 Tryd.results25 Tryd.results26 Tryd.results27 Tryd.results28 Tryd.results29 Tryd.results30 Tryd.results31 Tryd.results32 Tryd.results33 Tryd.results34 Tryd.results35 Tryd.results38 Tryd.results39 Tryd.results40 Tryd.results41 Tryd.results42 Tryd.results43 Tryd.results44 Tryd.results45 Tryd.results46 Tryd.results47 Tryd.results48 Tryd.results51 Tryd.results52 Tryd.results53 Tryd.results54
section
open Go.Shelf Go.RowKit Go.Lib Go.Sort
set_option maxHeartbeats 2000000 in
set_option maxRecDepth 100000 in
theorem Tryd.bld_used (b:Nat)(w:World)(h0:w.cell? ⟨b,0,none⟩=some (.pointer (some ⟨b,0,none⟩))):
  Calls Tryd.prog 37 #[.pointer (some ⟨b,0,none⟩)] w fun e w'=>e=.returned (.tuple #[])∧w'=w:=by
 obtain⟨j,hj,_⟩:=Option.map_eq_some_iff.1 Tryd.Builder_Extra_169.sizeBuilder
 have mixed:=Tryd.lays169.mixed
 have t49:=Tryd.underlying49;have a49:=Tryd.isAgg49;have z49:=Tryd.sizeOf49;have v49:=Tryd.zeroValue49;have u49:=run_underlying Tryd.underlying49
 have t46:=Tryd.underlying46;have a46:=Tryd.isAgg46;have z46:=Tryd.sizeOf46;have v46:=Tryd.zeroValue46;have u46:=run_underlying Tryd.underlying46
 have t9:=Tryd.underlying9;have a9:=Tryd.isAgg9;have z9:=Tryd.sizeOf9;have v9:=Tryd.zeroValue9;have u9:=run_underlying Tryd.underlying9
 have t4:=Tryd.underlying4;have a4:=Tryd.isAgg4;have z4:=Tryd.sizeOf4;have v4:=Tryd.zeroValue4;have u4:=run_underlying Tryd.underlying4
 have t91:=Tryd.underlying91;have a91:=Tryd.isAgg91;have z91:=Tryd.sizeOf91;have v91:=Tryd.zeroValue91;have u91:=run_underlying Tryd.underlying91
 go_enter Tryd.func37,Tryd.ntmps37
 go_wp2
 rw[Lib.run_neq_ptr_same w _ Tryd.underlying46 hj]
 go_wp2
 go_end0
 exact⟨rfl,rfl⟩
set_option maxHeartbeats 2000000 in
set_option maxRecDepth 100000 in
theorem Tryd.bld_fresh (b:Nat)(w:World)(h0:w.cell? ⟨b,0,none⟩=some (.pointer none))(hsh:w.shape? b=some (49,2))(hfz:w.frozen? ⟨b,0,none⟩=false):
  Calls Tryd.prog 37 #[.pointer (some ⟨b,0,none⟩)] w fun e w'=>e=.returned (.tuple #[])∧w'=w.setCell ⟨b,0,none⟩ (.pointer (some ⟨b,0,none⟩)):=by
 obtain⟨j,hj,hjs⟩:=Option.map_eq_some_iff.1 Tryd.Builder_Extra_169.sizeBuilder
 have mixed:=Tryd.lays169.mixed
 have t49:=Tryd.underlying49;have a49:=Tryd.isAgg49;have z49:=Tryd.sizeOf49;have v49:=Tryd.zeroValue49;have u49:=run_underlying Tryd.underlying49
 have t46:=Tryd.underlying46;have a46:=Tryd.isAgg46;have z46:=Tryd.sizeOf46;have v46:=Tryd.zeroValue46;have u46:=run_underlying Tryd.underlying46
 have t9:=Tryd.underlying9;have a9:=Tryd.isAgg9;have z9:=Tryd.sizeOf9;have v9:=Tryd.zeroValue9;have u9:=run_underlying Tryd.underlying9
 have t4:=Tryd.underlying4;have a4:=Tryd.isAgg4;have z4:=Tryd.sizeOf4;have v4:=Tryd.zeroValue4;have u4:=run_underlying Tryd.underlying4
 have t91:=Tryd.underlying91;have a91:=Tryd.isAgg91;have z91:=Tryd.sizeOf91;have v91:=Tryd.zeroValue91;have u91:=run_underlying Tryd.underlying91
 go_enter Tryd.func37,Tryd.ntmps37
 go_wp2
 rw[Lib.run_to_unsafe w ⟨b,0,none⟩ Tryd.underlying46 Tryd.underlying91 hj (by rw[hjs];decide) hsh (Nat.zero_lt_succ 1)]
 simp only[Result.andThen]
 rw[Oper.upon_value]
 go_wp2
 rw[run_callFunc_extern Tryd.func50 (by kernel_rfl) (by kernel_rfl) (by kernel_rfl) (e:=Extern.AbiNoEscape.same) (by kernel_rfl)]
 rw[Lib.run_noEscape]
 simp only[Result.andThen]
 rw[Oper.upon_value]
 go_wp2
 rw[Lib.run_from_unsafe w ⟨b,0,none⟩ Tryd.underlying91 Tryd.underlying46 hj hsh Tryd.Builder_Extra_169.liesBuilder]
 simp only[Result.andThen]
 rw[Oper.upon_value]
 go_wp2
 go_end0
 exact⟨rfl,rfl⟩
theorem Tryd.bld_copyCheck {b:Nat}{p v:Value}{w:World}(hb:w.heap[b]? =some (.cells #[p,v] 49 (0,0)))(hp:p=.pointer none∨p=.pointer (some ⟨b,0,none⟩)):
  Calls Tryd.prog 37 #[.pointer (some ⟨b,0,none⟩)] w fun e w'=>e=.returned (.tuple #[])∧w'.heap[b]? =some (.cells #[.pointer (some ⟨b,0,none⟩),v] 49 (0,0))∧Else b w w':=by
 have c0:w.cell? ⟨b,0,none⟩=some p:=by rw[Lib.cell_of_heap hb];rfl
 rcases hp with rfl|rfl
 ·refine(Tryd.bld_fresh b w c0 (by simp[World.shape?,hb]) (by simp[World.frozen?,hb])).mono ?_
  rintro e w' ⟨rfl,rfl⟩
  exact⟨rfl,by simp[World.setCell,Array.getElem?_modify,hb],Else.set b 0 _ w⟩
 ·refine(Tryd.bld_used b w c0).mono ?_
  rintro e w' ⟨rfl,rfl⟩
  exact⟨rfl,hb,rfl,rfl,rfl,rfl,fun _ _=>rfl⟩
set_option maxHeartbeats 2000000 in
set_option maxRecDepth 100000 in
theorem Tryd.bldW :BldW Tryd.prog 49 5 19:=by
 intro b p v bs s w hb hp hv hne hlen
 obtain⟨i0,hi,hz0,hz1,hz2⟩:=info_parts Tryd.Builder_Extra_169.infoByte
 have mixed:=Tryd.lays169.mixed
 have t49:=Tryd.underlying49;have a49:=Tryd.isAgg49;have z49:=Tryd.sizeOf49;have v49:=Tryd.zeroValue49;have u49:=run_underlying Tryd.underlying49
 have t46:=Tryd.underlying46;have a46:=Tryd.isAgg46;have z46:=Tryd.sizeOf46;have v46:=Tryd.zeroValue46;have u46:=run_underlying Tryd.underlying46
 have t47:=Tryd.underlying47;have a47:=Tryd.isAgg47;have z47:=Tryd.sizeOf47;have v47:=Tryd.zeroValue47;have u47:=run_underlying Tryd.underlying47
 have t3:=Tryd.underlying3;have a3:=Tryd.isAgg3;have z3:=Tryd.sizeOf3;have v3:=Tryd.zeroValue3;have u3:=run_underlying Tryd.underlying3
 have t9:=Tryd.underlying9;have a9:=Tryd.isAgg9;have z9:=Tryd.sizeOf9;have v9:=Tryd.zeroValue9;have u9:=run_underlying Tryd.underlying9
 have t4:=Tryd.underlying4;have a4:=Tryd.isAgg4;have z4:=Tryd.sizeOf4;have v4:=Tryd.zeroValue4;have u4:=run_underlying Tryd.underlying4
 have t91:=Tryd.underlying91;have a91:=Tryd.isAgg91;have z91:=Tryd.sizeOf91;have v91:=Tryd.zeroValue91;have u91:=run_underlying Tryd.underlying91
 have t5:=Tryd.underlying5;have a5:=Tryd.isAgg5;have z5:=Tryd.sizeOf5;have v5:=Tryd.zeroValue5;have u5:=run_underlying Tryd.underlying5
 have eCC:∀args w,(callFunc 37 args).run Tryd.prog w=.ok (.enter 37 args) w:=enters_of Tryd.func37 (by kernel_rfl) rfl
 go_enter Tryd.func19,Tryd.ntmps19
 go_wp2_with (go_at_fn 37;refine(Tryd.bld_copyCheck hb hp).mono ?_)
 rintro e w0 ⟨rfl,hb0,he0⟩
 have c1:w0.cell? ⟨b,1,none⟩=some v:=by rw[Lib.cell_of_heap hb0];rfl
 have hv0:=hv.else he0 hne
 go_wp2_with (at_builtin;refine wpList_appStr rfl _ _ 47 9 rfl Tryd.underlying47 Tryd.underlying9 hi hz0 hz1 hz2 rfl s rfl hv0 hlen ?_)
 intro v' w1 hap
 have hlt:b<w0.heap.size:=(Array.getElem?_eq_some_iff.1 hb0).1
 have hb1:w1.heap[b]? =some (.cells #[.pointer (some ⟨b,0,none⟩),v] 49 (0,0)):=by rw[hap.others hne hlt];exact hb0
 have d0:w1.cell? ⟨b,0,none⟩=some (.pointer (some ⟨b,0,none⟩)):=by rw[Lib.cell_of_heap hb1];rfl
 have d1:w1.cell? ⟨b,1,none⟩=some v:=by rw[Lib.cell_of_heap hb1];rfl
 have f1:w1.frozen? ⟨b,1,none⟩=false:=Lib.frozen_of_heap hb1 1
 obtain⟨ao,n',cap,rfl⟩:=hap.form hv
 go_wp2
 go_ret2
 exact⟨rfl,_,w0,w1,he0,hb0,hap,rfl⟩
end
variable (B : Nat) (hB1 : 1073741824 ≤ bd B) (hB2 : bd B ≤ 9223372036854775807 ∧ tbOf B = some 0)
include hB1 hB2
theorem C.f0 (a:List Int)(left':Int)(r:Int)(hF:F.f0 a left'=some r):PureCall Tryd.prog B 30 [.arr (List.map cI a),.lit (.int .i64 left')] (.lit (.int .i64 r)):=by
 unfold F.f0 at hF
 refine PureCall.enterLe Tryd.func30 (by kernel_rfl) rfl Tryd.ntmps30 (by simp) (by simp) ?_
 repeat first|refine cg ?_|simp -dsimp
 revert hF;refine abr.sp ?_ ?_<;>intro h1 q2 hF
 ·cases hF
  repeat first|refine cg ?_|simp -dsimp[h1]
  all_goals(try first|omega|rfl)
 ·cases hF
  repeat first|refine cg ?_|simp -dsimp[h1,q2]
  all_goals(try first|omega|rfl)
theorem C.f1 (a:PathBind)(left':Int)(r:Int)(hF:F.f1 a left'=some r):PureCall Tryd.prog B 47 [.agg [.lit (.int .i64 a.var),.arr (List.map cI a.path)],.lit (.int .i64 left')] (.lit (.int .i64 r)):=by
 unfold F.f1 at hF
 refine PureCall.enterLe Tryd.func47 (by kernel_rfl) rfl Tryd.ntmps47 (by simp) (by simp) ?_
 repeat first|refine cg ?_|simp -dsimp
 have hF:=ob hF;obtain⟨v,e1,hF⟩:=hF
 refine((C.f0 B hB1 hB2 a.path left' v e1)).goW (by simp) (by simp) ?_
 repeat first|refine cg ?_|simp -dsimp
 revert hF;refine abr.sp ?_ ?_<;>intro h2 q3 hF
 ·cases hF
  repeat first|refine cg ?_|simp -dsimp[h2]
  all_goals(try first|omega|rfl)
 ·cases hF
  repeat first|refine cg ?_|simp -dsimp[h2,q3]
  all_goals(try first|omega|rfl)
theorem CC.f2 (a:List PathBind):(∀(left'3:Int) (i:Nat) (o:Lo Int Int),F.f2 a left'3 i=some o→∀(c:Code),navO [1,1,1,0,1,0,0] (bodyOf Tryd.f31)=some c→∀(Q:Exit→ASt→Prop),o.post (fun r=>∀st,Post Tryd.prog Tryd.f31 (fun r' _=>r'.le (.lit (.int .i64 r))) .ret st→Q .ret st) (fun s=>Q (.exit 0) ⟨[(1,.lit (.int .i64 s))],[]⟩)→ALoopU Tryd.prog B 0 27 (hold c .mk) ⟨[(0,.arr (List.map PathBind.c a)),(1,.lit (.int .i64 left'3)),(5,.lit (.int .i64 (i:Int)))],[]⟩ (hold Q .mk)):=by
 refine F.f2.partial_correctness a
  _
  ?_
 ·intro _f_f2 ih_f2 left'3 i o hF
  intro c hc Q hq
  obtain rfl:c=_:=navEq hc rfl
  refine ALoopU.know fun hk hs=> ?_
  have b0:=hk 0
  simp -dsimp at b0
  clear hk hs
  refine ALoopU.enter ?_
  repeat first|refine cg ?_|simp -dsimp
  revert hF;refine abr.sp ?_ ?_<;>intro h4 q5 hF
  ·have z6:((i:Int)<(a.length:Int)):=auz
   have hF:=ob hF;obtain⟨x,e7,hF⟩:=hF
   have le7:=lt_of_get e7
   repeat first|refine cg ?_|simp -dsimp[h4,z6,↓e7]
   have hF:=ob hF;obtain⟨v,e8,hF⟩:=hF
   refine((C.f1 B hB1 hB2 x left'3 v e8)).goW (by first|simp[h4,z6,↓e7];done|simp_all) (by simp) ?_
   repeat first|refine cg ?_|simp -dsimp[h4,z6,↓e7]
   revert hF;refine abr.sp ?_ ?_<;>intro h9 q10 hF
   ·cases hF
    repeat first|refine cg ?_|simp -dsimp[h4,z6,↓e7,h9]
    refine Leave.go _ (Gh.refl _) (hq _ ?_)
    repeat first|refine cg ?_|simp -dsimp[h4,z6,↓e7,h9]
   ·have w11:IntKind.i64.wrap ((i:Int)+1)=(i:Int)+1:=wrap_in (by omega) (by omega)
    repeat first|refine cg ?_|simp -dsimp[h4,z6,↓e7,h9,q10,w11]
    refine Again.go _ ?_ ((ih_f2 v (i+1) o hF) _ rfl _ hq)
    exact(Gh.to3 (by simp) (by first|simp -dsimp[h4,z6,↓e7,h9,q10,w11];done|simp_all))
  ·have z6:¬((i:Int)<(a.length:Int)):=auz
   cases hF
   repeat first|refine cg ?_|simp -dsimp[h4,q5,z6]
   refine Leave.go _ (Gh.to3 (by simp) (by first|simp -dsimp[h4,q5,z6];done|simp_all)) hq
theorem C.f3 (a:List PathBind)(left':Int)(r:Int)(hF:F.f3 a left'=some r):PureCall Tryd.prog B 31 [.arr (List.map PathBind.c a),.lit (.int .i64 left')] (.lit (.int .i64 r)):=by
 unfold F.f3 at hF
 refine PureCall.enterLe Tryd.func31 (by kernel_rfl) rfl Tryd.ntmps31 (by simp) (by simp) ?_
 repeat first|refine cg ?_|simp -dsimp
 revert hF;refine abr.sp ?_ ?_<;>intro h1 q2 hF
 ·cases hF
  repeat first|refine cg ?_|simp -dsimp[h1]
  all_goals(try first|omega|rfl)
 ·repeat first|refine cg ?_|simp -dsimp[h1,q2]
  have hF:=ob hF;obtain⟨o',ho12,hF⟩:=hF
  refine ALoop.goU _ ?_ (((CC.f2 B hB1 hB2 a) (IntKind.i64.wrap (left'- (a.length:Int))) 0 o' ho12) _ rfl _ ?_)
  ·exact(Gh.to3 (by simp) (by first|simp -dsimp[h1,q2];done|simp_all))
  rcases o' with r0|sx
  ·dsimp only at hF
   cases hF
   intro st h
   simpa using h
  ·dsimp only at hF
   cases hF
   repeat first|refine cg ?_|simp -dsimp
   all_goals(try first|omega|rfl)
theorem C.f4 (a:List Vl.Edge)(left':Int)(r:Int)(hF:F.f4 a left'=some r):PureCall Tryd.prog B 40 [.arr (List.map Vl.Edge.c a),.lit (.int .i64 left')] (.lit (.int .i64 r)):=by
 unfold F.f4 at hF
 refine PureCall.enterLe Tryd.func40 (by kernel_rfl) rfl Tryd.ntmps40 (by simp) (by simp) ?_
 repeat first|refine cg ?_|simp -dsimp
 revert hF;refine abr.sp ?_ ?_<;>intro h1 q2 hF
 ·cases hF
  repeat first|refine cg ?_|simp -dsimp[h1]
  all_goals(try first|omega|rfl)
 ·cases hF
  repeat first|refine cg ?_|simp -dsimp[h1,q2]
  all_goals(try first|omega|rfl)
theorem C.f5 (a:Vl.Node)(left':Int)(r:Int)(hF:F.f5 a left'=some r):PureCall Tryd.prog B 23 [.agg [.lit (.int .i64 a.op),.lit (.int .i64 a.clause),.arr (List.map PathBind.c a.binds),.arr (List.map cI a.path),.arr (List.map Vl.Edge.c a.edges),.lit (.int .i64 a.els)],.lit (.int .i64 left')] (.lit (.int .i64 r)):=by
 unfold F.f5 at hF
 refine PureCall.enterLe Tryd.func23 (by kernel_rfl) rfl Tryd.ntmps23 (by simp) (by simp) ?_
 repeat first|refine cg ?_|simp -dsimp
 have hF:=ob hF;obtain⟨v,e1,hF⟩:=hF
 refine((C.f3 B hB1 hB2 a.binds left' v e1)).goW (by simp) (by simp) ?_
 repeat first|refine cg ?_|simp -dsimp
 revert hF;refine abr.sp ?_ ?_<;>intro h2 q3 hF
 ·cases hF
  repeat first|refine cg ?_|simp -dsimp[h2]
  all_goals(try first|omega|rfl)
 ·repeat first|refine cg ?_|simp -dsimp[h2,q3]
  have hF:=ob hF;obtain⟨v4,e5,hF⟩:=hF
  refine((C.f0 B hB1 hB2 a.path v v4 e5)).goW (by first|simp[h2,q3];done|simp_all) (by simp) ?_
  repeat first|refine cg ?_|simp -dsimp[h2,q3]
  revert hF;refine abr.sp ?_ ?_<;>intro h6 q7 hF
  ·cases hF
   repeat first|refine cg ?_|simp -dsimp[h2,q3,h6]
   all_goals(try first|omega|rfl)
  ·repeat first|refine cg ?_|simp -dsimp[h2,q3,h6,q7]
   have hF:=ob hF;obtain⟨v8,e9,hF⟩:=hF
   refine((C.f4 B hB1 hB2 a.edges v4 v8 e9)).goW (by first|simp[h2,q3,h6,q7];done|simp_all) (by simp) ?_
   repeat first|refine cg ?_|simp -dsimp[h2,q3,h6,q7]
   revert hF;refine abr.sp ?_ ?_<;>intro h10 q11 hF
   ·cases hF
    repeat first|refine cg ?_|simp -dsimp[h2,q3,h6,q7,h10]
    all_goals(try first|omega|rfl)
   ·cases hF
    repeat first|refine cg ?_|simp -dsimp[h2,q3,h6,q7,h10,q11]
    all_goals(try first|omega|rfl)
theorem CC.f6 (a:List Vl.Node):(∀(left'3:Int) (i:Nat) (o:Lo Int Int),F.f6 a left'3 i=some o→∀(c:Code),navO [1,1,1,0,1,0,0] (bodyOf Tryd.f10)=some c→∀(Q:Exit→ASt→Prop),o.post (fun r=>∀st,Post Tryd.prog Tryd.f10 (fun r' _=>r'.le (.lit (.int .i64 r))) .ret st→Q .ret st) (fun s=>Q (.exit 0) ⟨[(1,.lit (.int .i64 s))],[]⟩)→ALoopU Tryd.prog B 0 27 (hold c .mk) ⟨[(0,.arr (List.map Vl.Node.c a)),(1,.lit (.int .i64 left'3)),(5,.lit (.int .i64 (i:Int)))],[]⟩ (hold Q .mk)):=by
 refine F.f6.partial_correctness a
  _
  ?_
 ·intro _f_f6 ih_f6 left'3 i o hF
  intro c hc Q hq
  obtain rfl:c=_:=navEq hc rfl
  refine ALoopU.know fun hk hs=> ?_
  have b0:=hk 0
  simp -dsimp at b0
  clear hk hs
  refine ALoopU.enter ?_
  repeat first|refine cg ?_|simp -dsimp
  revert hF;refine abr.sp ?_ ?_<;>intro h4 q5 hF
  ·have z6:((i:Int)<(a.length:Int)):=auz
   have hF:=ob hF;obtain⟨x,e7,hF⟩:=hF
   have le7:=lt_of_get e7
   repeat first|refine cg ?_|simp -dsimp[h4,z6,↓e7]
   have hF:=ob hF;obtain⟨v,e8,hF⟩:=hF
   refine((C.f5 B hB1 hB2 x left'3 v e8)).goW (by first|simp[h4,z6,↓e7];done|simp_all) (by simp) ?_
   repeat first|refine cg ?_|simp -dsimp[h4,z6,↓e7]
   revert hF;refine abr.sp ?_ ?_<;>intro h9 q10 hF
   ·cases hF
    repeat first|refine cg ?_|simp -dsimp[h4,z6,↓e7,h9]
    refine Leave.go _ (Gh.refl _) (hq _ ?_)
    repeat first|refine cg ?_|simp -dsimp[h4,z6,↓e7,h9]
   ·have w11:IntKind.i64.wrap ((i:Int)+1)=(i:Int)+1:=wrap_in (by omega) (by omega)
    repeat first|refine cg ?_|simp -dsimp[h4,z6,↓e7,h9,q10,w11]
    refine Again.go _ ?_ ((ih_f6 v (i+1) o hF) _ rfl _ hq)
    exact(Gh.to3 (by simp) (by first|simp -dsimp[h4,z6,↓e7,h9,q10,w11];done|simp_all))
  ·have z6:¬((i:Int)<(a.length:Int)):=auz
   cases hF
   repeat first|refine cg ?_|simp -dsimp[h4,q5,z6]
   refine Leave.go _ (Gh.to3 (by simp) (by first|simp -dsimp[h4,q5,z6];done|simp_all)) hq
theorem C.f7 (a:List Vl.Node)(left':Int)(r:Int)(hF:F.f7 a left'=some r):PureCall Tryd.prog B 10 [.arr (List.map Vl.Node.c a),.lit (.int .i64 left')] (.lit (.int .i64 r)):=by
 unfold F.f7 at hF
 refine PureCall.enterLe Tryd.func10 (by kernel_rfl) rfl Tryd.ntmps10 (by simp) (by simp) ?_
 repeat first|refine cg ?_|simp -dsimp
 revert hF;refine abr.sp ?_ ?_<;>intro h1 q2 hF
 ·cases hF
  repeat first|refine cg ?_|simp -dsimp[h1]
  all_goals(try first|omega|rfl)
 ·repeat first|refine cg ?_|simp -dsimp[h1,q2]
  have hF:=ob hF;obtain⟨o',ho12,hF⟩:=hF
  refine ALoop.goU _ ?_ (((CC.f6 B hB1 hB2 a) (IntKind.i64.wrap (left'- (a.length:Int))) 0 o' ho12) _ rfl _ ?_)
  ·exact(Gh.to3 (by simp) (by first|simp -dsimp[h1,q2];done|simp_all))
  rcases o' with r0|sx
  ·dsimp only at hF
   cases hF
   intro st h
   simpa using h
  ·dsimp only at hF
   cases hF
   repeat first|refine cg ?_|simp -dsimp
   all_goals(try first|omega|rfl)
theorem CC.f8 (a:List Int):(∀(out:List Int) (i:Nat) (o:List Int),F.f8 a out i=some o→∀(c:Code),navO [1,1,0,1,0,0] (bodyOf Tryd.f34)=some c→∀(Q:Exit→ASt→Prop),(Q (.exit 0) ⟨[(3,.own 0 (List.length (α:=Int) o))],[.elems 1 (List.map cI o)]⟩)→ALoopU Tryd.prog B 0 22 (hold c .mk) ⟨[(0,.arr (List.map cI a)),(3,.own 0 (List.length (α:=Int) out)),(4,.lit (.int .i64 (i:Int)))],[.elems 1 (List.map cI out)]⟩ (hold Q .mk)):=by
 refine F.f8.partial_correctness a
  _
  ?_
 ·intro _f_f8 ih_f8 out i o hF
  intro c hc Q hq
  obtain rfl:c=_:=navEq hc rfl
  refine ALoopU.know fun hk hs=> ?_
  have b0:=hk 0
  simp -dsimp at b0
  have d0:=hs 0 _ rfl
  simp -dsimp[Blk.bnd]at d0
  clear hk hs
  refine ALoopU.enter ?_
  repeat first|refine cg ?_|simp -dsimp
  revert hF;refine abr.sp ?_ ?_<;>intro h2 q3 hF
  ·have z4:((i:Int)<(a.length:Int)):=auz
   have hF:=ob hF;obtain⟨x,e5,hF⟩:=hF
   have le5:=lt_of_get e5
   have hF:=ob hF;obtain⟨x6,e7,hF⟩:=hF
   have le7:=lt_of_get e7
   have w8:IntKind.i64.wrap ((i:Int)+1)=(i:Int)+1:=wrap_in (by omega) (by omega)
   repeat first|refine cg ?_|simp -dsimp[h2,z4,↓e5,↓e7,w8]
   refine Again.go _ ?_ ((ih_f8 (out.set i x) (i+1) o hF) _ rfl _ hq)
   exact(Gh.to3 (by simp) (by first|simp -dsimp[h2,z4,↓e5,↓e7,w8];done|simp_all))
  ·have z4:¬((i:Int)<(a.length:Int)):=auz
   cases hF
   repeat first|refine cg ?_|simp -dsimp[h2,q3,z4]
   refine Leave.go _ (Gh.to3 (by simp) (by first|simp -dsimp[h2,q3,z4];done|simp_all)) hq
theorem C.f9 (a:List Int)(r:List Int)(hF:F.f9 a=some r):PureCall Tryd.prog B 34 [.arr (List.map cI a)] (.arr (List.map cI r)):=by
 unfold F.f9 at hF
 refine PureCall.enterLe Tryd.func34 (by kernel_rfl) rfl Tryd.ntmps34 (by simp) (by simp) ?_
 have hF:=oc hF;obtain⟨c1,hF⟩:=hF
 repeat first|refine cg ?_|simp -dsimp
 have hF:=ob hF;obtain⟨o',ho9,hF⟩:=hF
 refine ALoop.goU _ ?_ (((CC.f8 B hB1 hB2 a) (List.replicate a.length 0) 0 o' ho9) _ rfl _ ?_)
 ·exact(Gh.to3 (by simp) (by simp -dsimp))
 cases hF
 repeat first|refine cg ?_|simp -dsimp
 all_goals(try first|omega|rfl)
theorem C.f10 (a:PathBind)(r:PathBind)(hF:F.f10 a=some r):PureCall Tryd.prog B 48 [.agg [.lit (.int .i64 a.var),.arr (List.map cI a.path)]] (.agg [.lit (.int .i64 r.var),.arr (List.map cI r.path)]):=by
 unfold F.f10 at hF
 refine PureCall.enterLe Tryd.func48 (by kernel_rfl) rfl Tryd.ntmps48 (by simp) (by simp) ?_
 repeat first|refine cg ?_|simp -dsimp
 have hF:=ob hF;obtain⟨v,e1,hF⟩:=hF
 refine((C.f9 B hB1 hB2 a.path v e1)).goW (by simp) (by simp) ?_
 cases hF
 repeat first|refine cg ?_|simp -dsimp
 all_goals(try first|omega|rfl)
theorem CC.f11 (a:List PathBind):(∀(out:List PathBind) (i:Nat) (o:List PathBind),F.f11 a out i=some o→∀(c:Code),navO [1,1,0,1,0,0] (bodyOf Tryd.f35)=some c→∀(Q:Exit→ASt→Prop),(Q (.exit 0) ⟨[(3,.own 0 (List.length (α:=PathBind) o))],[.elems 2 (List.map PathBind.c o)]⟩)→ALoopU Tryd.prog B 0 23 (hold c .mk) ⟨[(0,.arr (List.map PathBind.c a)),(3,.own 0 (List.length (α:=PathBind) out)),(4,.lit (.int .i64 (i:Int)))],[.elems 2 (List.map PathBind.c out)]⟩ (hold Q .mk)):=by
 refine F.f11.partial_correctness a
  _
  ?_
 ·intro _f_f11 ih_f11 out i o hF
  intro c hc Q hq
  obtain rfl:c=_:=navEq hc rfl
  refine ALoopU.know fun hk hs=> ?_
  have b0:=hk 0
  simp -dsimp at b0
  have d0:=hs 0 _ rfl
  simp -dsimp[Blk.bnd]at d0
  clear hk hs
  refine ALoopU.enter ?_
  repeat first|refine cg ?_|simp -dsimp
  revert hF;refine abr.sp ?_ ?_<;>intro h2 q3 hF
  ·have z4:((i:Int)<(a.length:Int)):=auz
   have hF:=ob hF;obtain⟨x,e5,hF⟩:=hF
   have le5:=lt_of_get e5
   repeat first|refine cg ?_|simp -dsimp[h2,z4,↓e5]
   have hF:=ob hF;obtain⟨v,e6,hF⟩:=hF
   refine((C.f10 B hB1 hB2 x v e6)).goW (by first|simp[h2,z4,↓e5];done|simp_all) (by simp) ?_
   have hF:=ob hF;obtain⟨x7,e8,hF⟩:=hF
   have le8:=lt_of_get e8
   have w9:IntKind.i64.wrap ((i:Int)+1)=(i:Int)+1:=wrap_in (by omega) (by omega)
   repeat first|refine cg ?_|simp -dsimp[h2,z4,↓e5,↓e8,w9]
   refine Again.go _ ?_ ((ih_f11 (out.set i v) (i+1) o hF) _ rfl _ hq)
   exact(Gh.to3 (by simp) (by first|simp -dsimp[h2,z4,↓e5,↓e8,w9];done|simp_all))
  ·have z4:¬((i:Int)<(a.length:Int)):=auz
   cases hF
   repeat first|refine cg ?_|simp -dsimp[h2,q3,z4]
   refine Leave.go _ (Gh.to3 (by simp) (by first|simp -dsimp[h2,q3,z4];done|simp_all)) hq
theorem C.f12 (a:List PathBind)(r:List PathBind)(hF:F.f12 a=some r):PureCall Tryd.prog B 35 [.arr (List.map PathBind.c a)] (.arr (List.map PathBind.c r)):=by
 unfold F.f12 at hF
 refine PureCall.enterLe Tryd.func35 (by kernel_rfl) rfl Tryd.ntmps35 (by simp) (by simp) ?_
 have hF:=oc hF;obtain⟨c1,hF⟩:=hF
 repeat first|refine cg ?_|simp -dsimp
 have hF:=ob hF;obtain⟨o',ho10,hF⟩:=hF
 refine ALoop.goU _ ?_ (((CC.f11 B hB1 hB2 a) (List.replicate a.length PathBind.z) 0 o' ho10) _ rfl _ ?_)
 ·exact(Gh.to3 (by simp) (by simp -dsimp))
 cases hF
 repeat first|refine cg ?_|simp -dsimp
 all_goals(try first|omega|rfl)
theorem C.f13 (a:Vl.Edge)(r:Vl.Edge)(hF:F.f13 a=some r):PureCall Tryd.prog B 52 [.agg [.lit (.int .i64 a.ctor),.lit (.int .i64 a.n),.lit (.int .i64 a.m),.lit (.int .i64 a.to)]] (.agg [.lit (.int .i64 r.ctor),.lit (.int .i64 r.n),.lit (.int .i64 r.m),.lit (.int .i64 r.to)]):=by
 unfold F.f13 at hF
 refine PureCall.enterLe Tryd.func52 (by kernel_rfl) rfl Tryd.ntmps52 (by simp) (by simp) ?_
 cases hF
 repeat first|refine cg ?_|simp -dsimp
 all_goals(try first|omega|rfl)
theorem CC.f14 (a:List Vl.Edge):(∀(out:List Vl.Edge) (i:Nat) (o:List Vl.Edge),F.f14 a out i=some o→∀(c:Code),navO [1,1,0,1,0,0] (bodyOf Tryd.f42)=some c→∀(Q:Exit→ASt→Prop),(Q (.exit 0) ⟨[(3,.own 0 (List.length (α:=Vl.Edge) o))],[.elems 4 (List.map Vl.Edge.c o)]⟩)→ALoopU Tryd.prog B 0 23 (hold c .mk) ⟨[(0,.arr (List.map Vl.Edge.c a)),(3,.own 0 (List.length (α:=Vl.Edge) out)),(4,.lit (.int .i64 (i:Int)))],[.elems 4 (List.map Vl.Edge.c out)]⟩ (hold Q .mk)):=by
 refine F.f14.partial_correctness a
  _
  ?_
 ·intro _f_f14 ih_f14 out i o hF
  intro c hc Q hq
  obtain rfl:c=_:=navEq hc rfl
  refine ALoopU.know fun hk hs=> ?_
  have b0:=hk 0
  simp -dsimp at b0
  have d0:=hs 0 _ rfl
  simp -dsimp[Blk.bnd]at d0
  clear hk hs
  refine ALoopU.enter ?_
  repeat first|refine cg ?_|simp -dsimp
  revert hF;refine abr.sp ?_ ?_<;>intro h2 q3 hF
  ·have z4:((i:Int)<(a.length:Int)):=auz
   have hF:=ob hF;obtain⟨x,e5,hF⟩:=hF
   have le5:=lt_of_get e5
   repeat first|refine cg ?_|simp -dsimp[h2,z4,↓e5]
   have hF:=ob hF;obtain⟨v,e6,hF⟩:=hF
   refine((C.f13 B hB1 hB2 x v e6)).goW (by first|simp[h2,z4,↓e5];done|simp_all) (by simp) ?_
   have hF:=ob hF;obtain⟨x7,e8,hF⟩:=hF
   have le8:=lt_of_get e8
   have w9:IntKind.i64.wrap ((i:Int)+1)=(i:Int)+1:=wrap_in (by omega) (by omega)
   repeat first|refine cg ?_|simp -dsimp[h2,z4,↓e5,↓e8,w9]
   refine Again.go _ ?_ ((ih_f14 (out.set i v) (i+1) o hF) _ rfl _ hq)
   exact(Gh.to3 (by simp) (by first|simp -dsimp[h2,z4,↓e5,↓e8,w9];done|simp_all))
  ·have z4:¬((i:Int)<(a.length:Int)):=auz
   cases hF
   repeat first|refine cg ?_|simp -dsimp[h2,q3,z4]
   refine Leave.go _ (Gh.to3 (by simp) (by first|simp -dsimp[h2,q3,z4];done|simp_all)) hq
theorem C.f15 (a:List Vl.Edge)(r:List Vl.Edge)(hF:F.f15 a=some r):PureCall Tryd.prog B 42 [.arr (List.map Vl.Edge.c a)] (.arr (List.map Vl.Edge.c r)):=by
 unfold F.f15 at hF
 refine PureCall.enterLe Tryd.func42 (by kernel_rfl) rfl Tryd.ntmps42 (by simp) (by simp) ?_
 have hF:=oc hF;obtain⟨c1,hF⟩:=hF
 repeat first|refine cg ?_|simp -dsimp
 have hF:=ob hF;obtain⟨o',ho10,hF⟩:=hF
 refine ALoop.goU _ ?_ (((CC.f14 B hB1 hB2 a) (List.replicate a.length Vl.Edge.z) 0 o' ho10) _ rfl _ ?_)
 ·exact(Gh.to3 (by simp) (by simp -dsimp))
 cases hF
 repeat first|refine cg ?_|simp -dsimp
 all_goals(try first|omega|rfl)
theorem C.f16 (a:Vl.Node)(r:Vl.Node)(hF:F.f16 a=some r):PureCall Tryd.prog B 27 [.agg [.lit (.int .i64 a.op),.lit (.int .i64 a.clause),.arr (List.map PathBind.c a.binds),.arr (List.map cI a.path),.arr (List.map Vl.Edge.c a.edges),.lit (.int .i64 a.els)]] (.agg [.lit (.int .i64 r.op),.lit (.int .i64 r.clause),.arr (List.map PathBind.c r.binds),.arr (List.map cI r.path),.arr (List.map Vl.Edge.c r.edges),.lit (.int .i64 r.els)]):=by
 unfold F.f16 at hF
 refine PureCall.enterLe Tryd.func27 (by kernel_rfl) rfl Tryd.ntmps27 (by simp) (by simp) ?_
 repeat first|refine cg ?_|simp -dsimp
 have hF:=ob hF;obtain⟨v,e1,hF⟩:=hF
 refine((C.f12 B hB1 hB2 a.binds v e1)).goW (by simp) (by simp) ?_
 repeat first|refine cg ?_|simp -dsimp
 have hF:=ob hF;obtain⟨v2,e3,hF⟩:=hF
 refine((C.f9 B hB1 hB2 a.path v2 e3)).goW (by simp) (by simp) ?_
 repeat first|refine cg ?_|simp -dsimp
 have hF:=ob hF;obtain⟨v4,e5,hF⟩:=hF
 refine((C.f15 B hB1 hB2 a.edges v4 e5)).goW (by simp) (by simp) ?_
 cases hF
 repeat first|refine cg ?_|simp -dsimp
 all_goals(try first|omega|rfl)
theorem CC.f17 (a:List Vl.Node):(∀(out:List Vl.Node) (i:Nat) (o:List Vl.Node),F.f17 a out i=some o→∀(c:Code),navO [1,1,0,1,0,0] (bodyOf Tryd.f12)=some c→∀(Q:Exit→ASt→Prop),(Q (.exit 0) ⟨[(3,.own 0 (List.length (α:=Vl.Node) o))],[.elems 6 (List.map Vl.Node.c o)]⟩)→ALoopU Tryd.prog B 0 23 (hold c .mk) ⟨[(0,.arr (List.map Vl.Node.c a)),(3,.own 0 (List.length (α:=Vl.Node) out)),(4,.lit (.int .i64 (i:Int)))],[.elems 6 (List.map Vl.Node.c out)]⟩ (hold Q .mk)):=by
 refine F.f17.partial_correctness a
  _
  ?_
 ·intro _f_f17 ih_f17 out i o hF
  intro c hc Q hq
  obtain rfl:c=_:=navEq hc rfl
  refine ALoopU.know fun hk hs=> ?_
  have b0:=hk 0
  simp -dsimp at b0
  have d0:=hs 0 _ rfl
  simp -dsimp[Blk.bnd]at d0
  clear hk hs
  refine ALoopU.enter ?_
  repeat first|refine cg ?_|simp -dsimp
  revert hF;refine abr.sp ?_ ?_<;>intro h2 q3 hF
  ·have z4:((i:Int)<(a.length:Int)):=auz
   have hF:=ob hF;obtain⟨x,e5,hF⟩:=hF
   have le5:=lt_of_get e5
   repeat first|refine cg ?_|simp -dsimp[h2,z4,↓e5]
   have hF:=ob hF;obtain⟨v,e6,hF⟩:=hF
   refine((C.f16 B hB1 hB2 x v e6)).goW (by first|simp[h2,z4,↓e5];done|simp_all) (by simp) ?_
   have hF:=ob hF;obtain⟨x7,e8,hF⟩:=hF
   have le8:=lt_of_get e8
   have w9:IntKind.i64.wrap ((i:Int)+1)=(i:Int)+1:=wrap_in (by omega) (by omega)
   repeat first|refine cg ?_|simp -dsimp[h2,z4,↓e5,↓e8,w9]
   refine Again.go _ ?_ ((ih_f17 (out.set i v) (i+1) o hF) _ rfl _ hq)
   exact(Gh.to3 (by simp) (by first|simp -dsimp[h2,z4,↓e5,↓e8,w9];done|simp_all))
  ·have z4:¬((i:Int)<(a.length:Int)):=auz
   cases hF
   repeat first|refine cg ?_|simp -dsimp[h2,q3,z4]
   refine Leave.go _ (Gh.to3 (by simp) (by first|simp -dsimp[h2,q3,z4];done|simp_all)) hq
theorem C.f18 (a:List Vl.Node)(r:List Vl.Node)(hF:F.f18 a=some r):PureCall Tryd.prog B 12 [.arr (List.map Vl.Node.c a)] (.arr (List.map Vl.Node.c r)):=by
 unfold F.f18 at hF
 refine PureCall.enterLe Tryd.func12 (by kernel_rfl) rfl Tryd.ntmps12 (by simp) (by simp) ?_
 have hF:=oc hF;obtain⟨c1,hF⟩:=hF
 repeat first|refine cg ?_|simp -dsimp
 have hF:=ob hF;obtain⟨o',ho10,hF⟩:=hF
 refine ALoop.goU _ ?_ (((CC.f17 B hB1 hB2 a) (List.replicate a.length Vl.Node.z) 0 o' ho10) _ rfl _ ?_)
 ·exact(Gh.to3 (by simp) (by simp -dsimp))
 cases hF
 repeat first|refine cg ?_|simp -dsimp
 all_goals(try first|omega|rfl)
theorem C.f19  (r:Int)(hF:F.f19=some r):PureCall Tryd.prog B 41 [] (.lit (.int .i64 r)):=by
 unfold F.f19 at hF
 refine PureCall.enterLe Tryd.func41 (by kernel_rfl) rfl Tryd.ntmps41 (by simp) (by simp) ?_
 cases hF
 repeat first|refine cg ?_|simp -dsimp
 all_goals(try first|omega|rfl)
theorem CC.f20 (list:List Vl.Node)(i:Nat)(x:Vl.Node):(∀(k:Nat) (o:Lo Bool Unit),F.f20 list i x k=some o→∀(c:Code),navO [1,1,0,1,0,0,1,0,0,1,1,1,0,0] (bodyOf Tryd.f24)=some c→∀(Q:Exit→ASt→Prop),o.post (fun r=>∀st,Post Tryd.prog Tryd.f24 (fun r' _=>r'.le (.lit (.bool r))) .ret st→Q .ret st) (fun s=>Q (.exit 2) ⟨[(0,.arr (List.map Vl.Node.c list)),(3,.lit (.int .i64 (i:Int)))],[]⟩)→ALoopU Tryd.prog B 0 74 (hold c .mk) ⟨[(0,.arr (List.map Vl.Node.c list)),(3,.lit (.int .i64 (i:Int))),(4,.ptr 0 0),(5,.lit (.int .i64 (k:Int)))],[.cells [.lit (.int .i64 x.op),.lit (.int .i64 x.clause),.arr (List.map PathBind.c x.binds),.arr (List.map cI x.path),.arr (List.map Vl.Edge.c x.edges),.lit (.int .i64 x.els)]]⟩ (hold Q .mk)):=by
 refine F.f20.partial_correctness list i x
  _
  ?_
 ·intro _f_f20 ih_f20 k o hF
  intro c hc Q hq
  obtain rfl:c=_:=navEq hc rfl
  refine ALoopU.know fun hk hs=> ?_
  have b0:=hk 0
  simp -dsimp at b0
  have d0:=hs 0 _ rfl
  simp -dsimp[Blk.bnd]at d0
  clear hk hs
  refine ALoopU.enter ?_
  repeat first|refine cg ?_|simp -dsimp
  revert hF;refine abr.sp ?_ ?_<;>intro h23 q24 hF
  ·have z25:((k:Int)<(x.edges.length:Int)):=auz
   have hF:=ob hF;obtain⟨x26,e27,hF⟩:=hF
   have le27:=lt_of_get e27
   repeat first|refine cg ?_|simp -dsimp[h23,z25,↓e27]
   revert hF;refine abr.ns ?_ ?_<;>intro h28 q29 hF
   ·repeat first|refine cg ?_|simp -dsimp[h23,z25,↓e27,h28,q29]
    revert hF;refine abr.sp ?_ ?_<;>intro h30 q31 hF
    ·cases hF
     repeat first|refine cg ?_|simp -dsimp[h23,z25,↓e27,h28,q29,h30]
     refine Leave.go _ (Gh.refl _) (hq _ ?_)
     repeat first|refine cg ?_|simp -dsimp[h23,z25,↓e27,h28,q29,h30]
    ·have w32:IntKind.i64.wrap ((k:Int)+1)=(k:Int)+1:=wrap_in (by omega) (by omega)
     repeat first|refine cg ?_|simp -dsimp[h23,z25,↓e27,h28,q29,h30,q31,w32]
     refine Again.go _ ?_ ((ih_f20 (k+1) o hF) _ rfl _ hq)
     exact(Gh.to3 (by simp) (by first|simp -dsimp[h23,z25,↓e27,h28,q29,h30,q31,w32];done|simp_all))
   ·cases hF
    repeat first|refine cg ?_|simp -dsimp[h23,z25,↓e27,h28,q29]
    refine Leave.go _ (Gh.refl _) (hq _ ?_)
    repeat first|refine cg ?_|simp -dsimp[h23,z25,↓e27,h28,q29]
  ·have z25:¬((k:Int)<(x.edges.length:Int)):=auz
   cases hF
   repeat first|refine cg ?_|simp -dsimp[h23,q24,z25]
   refine Leave.go _ (Gh.to3 (by simp) (by first|simp -dsimp[h23,q24,z25];done|simp_all)) hq
theorem CC.f21 (list:List Vl.Node):(∀(i:Nat) (o:Lo Bool Unit),F.f21 list i=some o→∀(c:Code),navO [1,1,0,1,0,0] (bodyOf Tryd.f24)=some c→∀(Q:Exit→ASt→Prop),o.post (fun r=>∀st,Post Tryd.prog Tryd.f24 (fun r' _=>r'.le (.lit (.bool r))) .ret st→Q .ret st) (fun s=>Q (.exit 0) ⟨[],[]⟩)→ALoopU Tryd.prog B 0 74 (hold c .mk) ⟨[(0,.arr (List.map Vl.Node.c list)),(3,.lit (.int .i64 (i:Int)))],[]⟩ (hold Q .mk)):=by
 refine F.f21.partial_correctness list
  _
  ?_
 ·intro _f_f21 ih_f21 i o hF
  intro c hc Q hq
  obtain rfl:c=_:=navEq hc rfl
  refine ALoopU.know fun hk hs=> ?_
  have b0:=hk 0
  simp -dsimp at b0
  clear hk hs
  refine ALoopU.enter ?_
  repeat first|refine cg ?_|simp -dsimp
  revert hF;refine abr.sp ?_ ?_<;>intro h7 q8 hF
  ·have z9:((i:Int)<(list.length:Int)):=auz
   have hF:=ob hF;obtain⟨x,e10,hF⟩:=hF
   have le10:=lt_of_get e10
   repeat first|refine cg ?_|simp -dsimp[h7,z9,↓e10]
   refine ADraw.simple follows (by kernel_rfl) (by kernel_rfl) ?_
   repeat first|refine cg ?_|simp -dsimp[h7,z9,↓e10]
   revert hF;refine abr.ns ?_ ?_<;>intro h11 q12 hF
   ·repeat first|refine cg ?_|simp -dsimp[h7,z9,↓e10,h11,q12]
    revert hF;refine abr.ns ?_ ?_<;>intro h13 q14 hF
    ·repeat first|refine cg ?_|simp -dsimp[h7,z9,↓e10,h11,q12,h13,q14]
     have hF:=ob hF;obtain⟨v,e15,hF⟩:=hF
     refine((C.f19 B hB1 hB2 v e15)).pgoW (by first|simp[h7,z9,↓e10,h11,q12,h13,q14];done|simp_all) (by simp) ?_
     repeat first|refine cg ?_|simp -dsimp[h7,z9,↓e10,h11,q12,h13,q14]
     revert hF;refine abr.ns ?_ ?_<;>intro h16 q17 hF
     ·repeat first|refine cg ?_|simp -dsimp[h7,z9,↓e10,h11,q12,h13,q14,h16,q17]
      revert hF;refine abr.ns ?_ ?_<;>intro h18 q19 hF
      ·repeat first|refine cg ?_|simp -dsimp[h7,z9,↓e10,h11,q12,h13,q14,h16,q17,h18,q19]
       revert hF;refine abr.sp ?_ ?_<;>intro h20 q21 hF
       ·have z22:(10<(x.edges.length:Int)):=auz
        cases hF
        repeat first|refine cg ?_|simp -dsimp[h7,z9,↓e10,h11,q12,h13,q14,h16,q17,h18,q19,h20,z22]
        refine Leave.go _ (Gh.refl _) (hq _ ?_)
        repeat first|refine cg ?_|simp -dsimp[h7,z9,↓e10,h11,q12,h13,q14,h16,q17,h18,q19,h20,z22]
       ·have z22:¬(10<(x.edges.length:Int)):=auz
        repeat first|refine cg ?_|simp -dsimp[h7,z9,↓e10,h11,q12,h13,q14,h16,q17,h18,q19,h20,q21,z22]
        have hF:=ob hF;obtain⟨o',ho33,hF⟩:=hF
        refine ALoop.goU _ ?_ (((CC.f20 B hB1 hB2 list i x) 0 o' ho33) _ rfl _ ?_)
        ·exact(Gh.to3 (by simp) (by first|simp -dsimp[h7,z9,↓e10,h11,q12,h13,q14,h16,q17,h18,q19,h20,q21,z22];done|simp_all))
        rcases o' with r0|sx
        ·dsimp only at hF
         cases hF
         intro st h
         simp -dsimp
         refine Leave.go st (Gh.refl _) (hq st h)
        ·dsimp only at hF
         have hF:=oc hF;obtain⟨c34,hF⟩:=hF
         have w35:IntKind.i64.wrap ((i:Int)+1)=(i:Int)+1:=wrap_in (by omega) (by omega)
         repeat first|refine cg ?_|simp -dsimp[w35]
         refine Again.go _ ?_ ((ih_f21 (i+1) o hF) _ rfl _ hq)
         exact(Gh.to3 (by simp) (by first|simp -dsimp[w35];done|simp_all))
      ·cases hF
       repeat first|refine cg ?_|simp -dsimp[h7,z9,↓e10,h11,q12,h13,q14,h16,q17,h18,q19]
       refine Leave.go _ (Gh.refl _) (hq _ ?_)
       repeat first|refine cg ?_|simp -dsimp[h7,z9,↓e10,h11,q12,h13,q14,h16,q17,h18,q19]
     ·cases hF
      repeat first|refine cg ?_|simp -dsimp[h7,z9,↓e10,h11,q12,h13,q14,h16,q17]
      refine Leave.go _ (Gh.refl _) (hq _ ?_)
      repeat first|refine cg ?_|simp -dsimp[h7,z9,↓e10,h11,q12,h13,q14,h16,q17]
    ·cases hF
     repeat first|refine cg ?_|simp -dsimp[h7,z9,↓e10,h11,q12,h13,q14]
     refine Leave.go _ (Gh.refl _) (hq _ ?_)
     repeat first|refine cg ?_|simp -dsimp[h7,z9,↓e10,h11,q12,h13,q14]
   ·cases hF
    repeat first|refine cg ?_|simp -dsimp[h7,z9,↓e10,h11,q12]
    refine Leave.go _ (Gh.refl _) (hq _ ?_)
    repeat first|refine cg ?_|simp -dsimp[h7,z9,↓e10,h11,q12]
  ·have z9:¬((i:Int)<(list.length:Int)):=auz
   cases hF
   repeat first|refine cg ?_|simp -dsimp[h7,q8,z9]
   refine Leave.go _ (Gh.to3 (by simp) (by first|simp -dsimp[h7,q8,z9];done|simp_all)) hq
theorem C.f22 (list:List Vl.Node)(r:Bool)(hF:F.f22 list=some r):PureCall Tryd.prog B 24 [.arr (List.map Vl.Node.c list)] (.lit (.bool r)):=by
 unfold F.f22 at hF
 refine PureCall.enterLe Tryd.func24 (by kernel_rfl) rfl Tryd.ntmps24 (by simp) (by simp) ?_
 repeat first|refine cg ?_|simp -dsimp
 revert hF;refine abr.ns ?_ ?_<;>intro h1 q2 hF
 ·have z3:¬((list.length:Int)=0):=auz
  repeat first|refine cg ?_|simp -dsimp[h1,q2,z3]
  revert hF;refine abr.sp ?_ ?_<;>intro h4 q5 hF
  ·have z6:(300<(list.length:Int)):=auz
   cases hF
   repeat first|refine cg ?_|simp -dsimp[h1,q2,z3,h4,z6]
   all_goals(try first|omega|rfl)
  ·have z6:¬(300<(list.length:Int)):=auz
   repeat first|refine cg ?_|simp -dsimp[h1,q2,z3,h4,q5,z6]
   have hF:=ob hF;obtain⟨o'37,ho36,hF⟩:=hF
   refine ALoop.goU _ ?_ (((CC.f21 B hB1 hB2 list) 0 o'37 ho36) _ rfl _ ?_)
   ·exact(Gh.to3 (by simp) (by first|simp -dsimp[h1,q2,z3,h4,q5,z6];done|simp_all))
   rcases o'37 with r039|sx38
   ·dsimp only at hF
    cases hF
    intro st h
    simpa using h
   ·dsimp only at hF
    cases hF
    repeat first|refine cg ?_|simp -dsimp
    all_goals(try first|omega|rfl)
 ·have z3:((list.length:Int)=0):=auz
  cases hF
  repeat first|refine cg ?_|simp -dsimp[h1,q2,z3]
  all_goals(try first|omega|rfl)
theorem CC.f23  :(∀(n7:Int) (out:ByteArray) (o:Int×ByteArray),F.f23 n7 out=some o→∀(c:Code),navO [1,1,1,1,0,0,0] (bodyOf Tryd.f25)=some c→∀(Q:Exit→ASt→Prop),(Q (.exit 0) ⟨[(0,.lit (.int .i64 o.1)),(3,.lit (.string o.2))],[]⟩)→ALoopU Tryd.prog B 0 31 (hold c .mk) ⟨[(0,.lit (.int .i64 n7)),(3,.lit (.string out))],[]⟩ (hold Q .mk)):=by
 refine F.f23.partial_correctness 
  _
  ?_
 ·intro _f_f23 ih_f23 n7 out o hF
  intro c hc Q hq
  obtain rfl:c=_:=navEq hc rfl
  refine ALoopU.know fun hk hs=> ?_
  clear hk hs
  refine ALoopU.enter ?_
  repeat first|refine cg ?_|simp -dsimp
  revert hF;refine abr.sp ?_ ?_<;>intro h8 q9 hF
  ·have hF:=oc hF;obtain⟨c10,hF⟩:=hF
   repeat first|refine cg ?_|simp -dsimp[h8]
   refine Again.go _ ?_ ((ih_f23 (IntKind.i64.wrap (n7.tdiv 10)) ((strB [IntKind.u8.wrap (IntKind.i64.wrap (48+n7.tmod 10))])++out) o hF) _ rfl _ hq)
   exact(Gh.to3 (by simp) (by first|simp -dsimp[h8];done|simp_all))
  ·cases hF
   repeat first|refine cg ?_|simp -dsimp[h8,q9]
   refine Leave.go _ (Gh.to3 (by simp) (by first|simp -dsimp[h8,q9];done|simp_all)) hq
theorem CC.f24  :(∀(n:Int) (r:ByteArray),F.f24 n=some r→PureCall Tryd.prog B 25 [.lit (.int .i64 n)] (.lit (.string r))):=by
 refine F.f24.partial_correctness 
  _
  ?_
 ·intro _f_f24 ih_f24 n r hF
  refine PureCall.enterLe Tryd.func25 (by kernel_rfl) rfl Tryd.ntmps25 (by simp) (by simp) ?_
  repeat first|refine cg ?_|simp -dsimp
  revert hF;refine abr.sp ?_ ?_<;>intro h1 q2 hF
  ·cases hF
   repeat first|refine cg ?_|simp -dsimp[h1]
   all_goals(try first|omega|rfl)
  ·repeat first|refine cg ?_|simp -dsimp[h1,q2]
   revert hF;refine abr.sp ?_ ?_<;>intro h3 q4 hF
   ·repeat first|refine cg ?_|simp -dsimp[h1,q2,h3]
    have hF:=ob hF;obtain⟨v,e5,hF⟩:=hF
    refine((ih_f24 (IntKind.i64.wrap (0-n)) v e5)).goW (by first|simp[h1,q2,h3];done|simp_all) (by simp) ?_
    have hF:=oc hF;obtain⟨c6,hF⟩:=hF
    cases hF
    repeat first|refine cg ?_|simp -dsimp[h1,q2,h3]
    all_goals(try first|omega|rfl)
   ·repeat first|refine cg ?_|simp -dsimp[h1,q2,h3,q4]
    have hF:=ob hF;obtain⟨o',ho11,hF⟩:=hF
    refine ALoop.goU _ ?_ (((CC.f23 B hB1 hB2) n ByteArray.empty o' ho11) _ rfl _ ?_)
    ·exact(Gh.to3 (by simp) (by first|simp -dsimp[h1,q2,h3,q4];done|simp_all))
    have hF:=oc hF;obtain⟨c12,hF⟩:=hF
    cases hF
    repeat first|refine cg ?_|simp -dsimp
    all_goals(try first|omega|rfl)
theorem C.f25 (n:Int)(r:ByteArray)(hF:F.f25 n=some r):PureCall Tryd.prog B 33 [.lit (.int .i64 n)] (.lit (.string r)):=by
 unfold F.f25 at hF
 refine PureCall.enterLe Tryd.func33 (by kernel_rfl) rfl Tryd.ntmps33 (by simp) (by simp) ?_
 repeat first|refine cg ?_|simp -dsimp
 revert hF;refine abr.sp ?_ ?_<;>intro h1 q2 hF
 ·repeat first|refine cg ?_|simp -dsimp[h1]
  revert hF;refine abr.sp ?_ ?_<;>intro h3 q4 hF
  ·repeat first|refine cg ?_|simp -dsimp[h1,h3]
   have hF:=ob hF;obtain⟨v,e5,hF⟩:=hF
   refine(((CC.f24 B hB1 hB2) (IntKind.i64.wrap (0-n)) v e5)).goW (by first|simp[h1,h3];done|simp_all) (by simp) ?_
   have hF:=oc hF;obtain⟨c6,hF⟩:=hF
   cases hF
   repeat first|refine cg ?_|simp -dsimp[h1,h3]
   all_goals(try first|omega|rfl)
  ·repeat first|refine cg ?_|simp -dsimp[h1,h3,q4]
   have hF:=ob hF;obtain⟨v7,e8,hF⟩:=hF
   refine(((CC.f24 B hB1 hB2) n v7 e8)).goW (by first|simp[h1,h3,q4];done|simp_all) (by simp) ?_
   cases hF
   repeat first|refine cg ?_|simp -dsimp[h1,h3,q4]
   all_goals(try first|omega|rfl)
 ·repeat first|refine cg ?_|simp -dsimp[h1,q2]
  have hF:=ob hF;obtain⟨v9,e10,hF⟩:=hF
  refine(((CC.f24 B hB1 hB2) n v9 e10)).goW (by first|simp[h1,q2];done|simp_all) (by simp) ?_
  cases hF
  repeat first|refine cg ?_|simp -dsimp[h1,q2]
  all_goals(try first|omega|rfl)
theorem CC.f26 (path:List Int):(∀(out:ByteArray) (i:Nat) (o:ByteArray),F.f26 path out i=some o→∀(c:Code),navO [1,1,0,1,0,0] (bodyOf Tryd.f32)=some c→∀(Q:Exit→ASt→Prop),(Q (.exit 0) ⟨[(3,.lit (.string o))],[]⟩)→ALoopU Tryd.prog B 0 20 (hold c .mk) ⟨[(0,.arr (List.map cI path)),(3,.lit (.string out)),(4,.lit (.int .i64 (i:Int)))],[]⟩ (hold Q .mk)):=by
 refine F.f26.partial_correctness path
  _
  ?_
 ·intro _f_f26 ih_f26 out i o hF
  intro c hc Q hq
  obtain rfl:c=_:=navEq hc rfl
  refine ALoopU.know fun hk hs=> ?_
  have b0:=hk 0
  simp -dsimp at b0
  clear hk hs
  refine ALoopU.enter ?_
  repeat first|refine cg ?_|simp -dsimp
  revert hF;refine abr.sp ?_ ?_<;>intro h1 q2 hF
  ·have z3:((i:Int)<(path.length:Int)):=auz
   have hF:=oc hF;obtain⟨c4,hF⟩:=hF
   have hF:=ob hF;obtain⟨x,e5,hF⟩:=hF
   have le5:=lt_of_get e5
   repeat first|refine cg ?_|simp -dsimp[h1,z3,↓e5]
   have hF:=ob hF;obtain⟨v,e6,hF⟩:=hF
   refine(((CC.f24 B hB1 hB2) x v e6)).goW (by first|simp[h1,z3,↓e5];done|simp_all) (by simp) ?_
   have hF:=oc hF;obtain⟨c7,hF⟩:=hF
   have dc7:=c7;simp only[ByteArray.size_append]at dc7
   have w8:IntKind.i64.wrap ((i:Int)+1)=(i:Int)+1:=wrap_in (by omega) (by omega)
   repeat first|refine cg ?_|simp -dsimp[h1,z3,↓e5,w8]
   refine Again.go _ ?_ ((ih_f26 ((out++(⟨#[46]⟩:ByteArray))++v) (i+1) o hF) _ rfl _ hq)
   exact(Gh.to3 (by simp) (by first|simp -dsimp[h1,z3,↓e5,w8];done|simp_all))
  ·have z3:¬((i:Int)<(path.length:Int)):=auz
   cases hF
   repeat first|refine cg ?_|simp -dsimp[h1,q2,z3]
   refine Leave.go _ (Gh.to3 (by simp) (by first|simp -dsimp[h1,q2,z3];done|simp_all)) hq
theorem C.f27 (path:List Int)(r:ByteArray)(hF:F.f27 path=some r):PureCall Tryd.prog B 32 [.arr (List.map cI path)] (.lit (.string r)):=by
 unfold F.f27 at hF
 refine PureCall.enterLe Tryd.func32 (by kernel_rfl) rfl Tryd.ntmps32 (by simp) (by simp) ?_
 repeat first|refine cg ?_|simp -dsimp
 have hF:=ob hF;obtain⟨o',ho9,hF⟩:=hF
 refine ALoop.goU _ ?_ (((CC.f26 B hB1 hB2 path) (⟨#[118]⟩:ByteArray) 0 o' ho9) _ rfl _ ?_)
 ·exact(Gh.to3 (by simp) (by simp -dsimp))
 cases hF
 repeat first|refine cg ?_|simp -dsimp
 all_goals(try first|omega|rfl)
theorem CC.f28 (x:Vl.Node):(∀(out:ByteArray) (i:Nat) (o:ByteArray),F.f28 x out i=some o→∀(c:Code),navO [1,1,1,1,0,1,0,0] (bodyOf Tryd.f26)=some c→∀(Q:Exit→ASt→Prop),(Q (.exit 0) ⟨[(1,.ptr 0 0),(3,.lit (.string o))],[.cells [.lit (.int .i64 x.op),.lit (.int .i64 x.clause),.arr (List.map PathBind.c x.binds),.arr (List.map cI x.path),.arr (List.map Vl.Edge.c x.edges),.lit (.int .i64 x.els)]]⟩)→ALoopU Tryd.prog B 0 63 (hold c .mk) ⟨[(1,.ptr 0 0),(3,.lit (.string out)),(4,.lit (.int .i64 (i:Int)))],[.cells [.lit (.int .i64 x.op),.lit (.int .i64 x.clause),.arr (List.map PathBind.c x.binds),.arr (List.map cI x.path),.arr (List.map Vl.Edge.c x.edges),.lit (.int .i64 x.els)]]⟩ (hold Q .mk)):=by
 refine F.f28.partial_correctness x
  _
  ?_
 ·intro _f_f28 ih_f28 out i o hF
  intro c hc Q hq
  obtain rfl:c=_:=navEq hc rfl
  refine ALoopU.know fun hk hs=> ?_
  have d0:=hs 0 _ rfl
  simp -dsimp[Blk.bnd]at d0
  clear hk hs
  refine ALoopU.enter ?_
  repeat first|refine cg ?_|simp -dsimp
  revert hF;refine abr.sp ?_ ?_<;>intro h10 q11 hF
  ·have z12:((i:Int)<(x.edges.length:Int)):=auz
   have hF:=ob hF;obtain⟨x13,e14,hF⟩:=hF
   have le14:=lt_of_get e14
   repeat first|refine cg ?_|simp -dsimp[h10,z12,↓e14]
   refine ADraw.simple follows (by kernel_rfl) (by kernel_rfl) ?_
   have hF:=oc hF;obtain⟨c15,hF⟩:=hF
   repeat first|refine cg ?_|simp -dsimp[h10,z12,↓e14]
   have hF:=ob hF;obtain⟨v16,e17,hF⟩:=hF
   refine((C.f25 B hB1 hB2 x13.ctor v16 e17)).pgoW (by first|simp[h10,z12,↓e14];done|simp_all) (by simp) ?_
   have hF:=oc hF;obtain⟨c18,hF⟩:=hF
   have dc18:=c18;simp only[ByteArray.size_append]at dc18
   have hF:=oc hF;obtain⟨c19,hF⟩:=hF
   have dc19:=c19;simp only[ByteArray.size_append]at dc19
   repeat first|refine cg ?_|simp -dsimp[h10,z12,↓e14]
   have hF:=ob hF;obtain⟨v20,e21,hF⟩:=hF
   refine((C.f25 B hB1 hB2 x13.n v20 e21)).pgoW (by first|simp[h10,z12,↓e14];done|simp_all) (by simp) ?_
   have hF:=oc hF;obtain⟨c22,hF⟩:=hF
   have dc22:=c22;simp only[ByteArray.size_append]at dc22
   have hF:=oc hF;obtain⟨c23,hF⟩:=hF
   have dc23:=c23;simp only[ByteArray.size_append]at dc23
   repeat first|refine cg ?_|simp -dsimp[h10,z12,↓e14]
   have hF:=ob hF;obtain⟨v24,e25,hF⟩:=hF
   refine((C.f25 B hB1 hB2 x13.m v24 e25)).pgoW (by first|simp[h10,z12,↓e14];done|simp_all) (by simp) ?_
   have hF:=oc hF;obtain⟨c26,hF⟩:=hF
   have dc26:=c26;simp only[ByteArray.size_append]at dc26
   have hF:=oc hF;obtain⟨c27,hF⟩:=hF
   have dc27:=c27;simp only[ByteArray.size_append]at dc27
   repeat first|refine cg ?_|simp -dsimp[h10,z12,↓e14]
   have hF:=ob hF;obtain⟨v28,e29,hF⟩:=hF
   refine(((CC.f24 B hB1 hB2) x13.to v28 e29)).pgoW (by first|simp[h10,z12,↓e14];done|simp_all) (by simp) ?_
   have hF:=oc hF;obtain⟨c30,hF⟩:=hF
   have dc30:=c30;simp only[ByteArray.size_append]at dc30
   have w31:IntKind.i64.wrap ((i:Int)+1)=(i:Int)+1:=wrap_in (by omega) (by omega)
   repeat first|refine cg ?_|simp -dsimp[h10,z12,↓e14,w31]
   refine Again.go _ ?_ ((ih_f28 ((((((((out++(⟨#[32]⟩:ByteArray))++v16)++(⟨#[58]⟩:ByteArray))++v20)++(⟨#[45]⟩:ByteArray))++v24)++(⟨#[62]⟩:ByteArray))++v28) (i+1) o hF) _ rfl _ hq)
   exact(Gh.to3 (by simp) (by first|simp -dsimp[h10,z12,↓e14,w31];done|simp_all))
  ·have z12:¬((i:Int)<(x.edges.length:Int)):=auz
   cases hF
   repeat first|refine cg ?_|simp -dsimp[h10,q11,z12]
   refine Leave.go _ (Gh.to3 (by simp) (by first|simp -dsimp[h10,q11,z12];done|simp_all)) hq
theorem CC.f29 (x:Vl.Node):(∀(out39:ByteArray) (i40:Nat) (o:ByteArray),F.f29 x out39 i40=some o→∀(c:Code),navO [1,1,1,1,0,1,0,0] (bodyOf Tryd.f26)=some c→∀(Q:Exit→ASt→Prop),(Q (.exit 0) ⟨[(1,.ptr 0 0),(3,.lit (.string o))],[.cells [.lit (.int .i64 x.op),.lit (.int .i64 x.clause),.arr (List.map PathBind.c x.binds),.arr (List.map cI x.path),.arr (List.map Vl.Edge.c x.edges),.lit (.int .i64 x.els)]]⟩)→ALoopU Tryd.prog B 0 63 (hold c .mk) ⟨[(1,.ptr 0 0),(3,.lit (.string out39)),(4,.lit (.int .i64 (i40:Int)))],[.cells [.lit (.int .i64 x.op),.lit (.int .i64 x.clause),.arr (List.map PathBind.c x.binds),.arr (List.map cI x.path),.arr (List.map Vl.Edge.c x.edges),.lit (.int .i64 x.els)]]⟩ (hold Q .mk)):=by
 refine F.f29.partial_correctness x
  _
  ?_
 ·intro _f_f29 ih_f29 out39 i40 o hF
  intro c hc Q hq
  obtain rfl:c=_:=navEq hc rfl
  refine ALoopU.know fun hk hs=> ?_
  have d0:=hs 0 _ rfl
  simp -dsimp[Blk.bnd]at d0
  clear hk hs
  refine ALoopU.enter ?_
  repeat first|refine cg ?_|simp -dsimp
  revert hF;refine abr.sp ?_ ?_<;>intro h41 q42 hF
  ·have z43:((i40:Int)<(x.edges.length:Int)):=auz
   have hF:=ob hF;obtain⟨x44,e45,hF⟩:=hF
   have le45:=lt_of_get e45
   repeat first|refine cg ?_|simp -dsimp[h41,z43,↓e45]
   refine ADraw.simple follows (by kernel_rfl) (by kernel_rfl) ?_
   have hF:=oc hF;obtain⟨c46,hF⟩:=hF
   repeat first|refine cg ?_|simp -dsimp[h41,z43,↓e45]
   have hF:=ob hF;obtain⟨v47,e48,hF⟩:=hF
   refine((C.f25 B hB1 hB2 x44.ctor v47 e48)).pgoW (by first|simp[h41,z43,↓e45];done|simp_all) (by simp) ?_
   have hF:=oc hF;obtain⟨c49,hF⟩:=hF
   have dc49:=c49;simp only[ByteArray.size_append]at dc49
   have hF:=oc hF;obtain⟨c50,hF⟩:=hF
   have dc50:=c50;simp only[ByteArray.size_append]at dc50
   repeat first|refine cg ?_|simp -dsimp[h41,z43,↓e45]
   have hF:=ob hF;obtain⟨v51,e52,hF⟩:=hF
   refine((C.f25 B hB1 hB2 x44.n v51 e52)).pgoW (by first|simp[h41,z43,↓e45];done|simp_all) (by simp) ?_
   have hF:=oc hF;obtain⟨c53,hF⟩:=hF
   have dc53:=c53;simp only[ByteArray.size_append]at dc53
   have hF:=oc hF;obtain⟨c54,hF⟩:=hF
   have dc54:=c54;simp only[ByteArray.size_append]at dc54
   repeat first|refine cg ?_|simp -dsimp[h41,z43,↓e45]
   have hF:=ob hF;obtain⟨v55,e56,hF⟩:=hF
   refine((C.f25 B hB1 hB2 x44.m v55 e56)).pgoW (by first|simp[h41,z43,↓e45];done|simp_all) (by simp) ?_
   have hF:=oc hF;obtain⟨c57,hF⟩:=hF
   have dc57:=c57;simp only[ByteArray.size_append]at dc57
   have hF:=oc hF;obtain⟨c58,hF⟩:=hF
   have dc58:=c58;simp only[ByteArray.size_append]at dc58
   repeat first|refine cg ?_|simp -dsimp[h41,z43,↓e45]
   have hF:=ob hF;obtain⟨v59,e60,hF⟩:=hF
   refine(((CC.f24 B hB1 hB2) x44.to v59 e60)).pgoW (by first|simp[h41,z43,↓e45];done|simp_all) (by simp) ?_
   have hF:=oc hF;obtain⟨c61,hF⟩:=hF
   have dc61:=c61;simp only[ByteArray.size_append]at dc61
   have w62:IntKind.i64.wrap ((i40:Int)+1)=(i40:Int)+1:=wrap_in (by omega) (by omega)
   repeat first|refine cg ?_|simp -dsimp[h41,z43,↓e45,w62]
   refine Again.go _ ?_ ((ih_f29 ((((((((out39++(⟨#[32]⟩:ByteArray))++v47)++(⟨#[58]⟩:ByteArray))++v51)++(⟨#[45]⟩:ByteArray))++v55)++(⟨#[62]⟩:ByteArray))++v59) (i40+1) o hF) _ rfl _ hq)
   exact(Gh.to3 (by simp) (by first|simp -dsimp[h41,z43,↓e45,w62];done|simp_all))
  ·have z43:¬((i40:Int)<(x.edges.length:Int)):=auz
   cases hF
   repeat first|refine cg ?_|simp -dsimp[h41,q42,z43]
   refine Leave.go _ (Gh.to3 (by simp) (by first|simp -dsimp[h41,q42,z43];done|simp_all)) hq
theorem C.f30 (x:Vl.Node)(r:ByteArray)(hF:F.f30 x=some r):PureCall Tryd.prog B 26 [.agg [.lit (.int .i64 x.op),.lit (.int .i64 x.clause),.arr (List.map PathBind.c x.binds),.arr (List.map cI x.path),.arr (List.map Vl.Edge.c x.edges),.lit (.int .i64 x.els)]] (.lit (.string r)):=by
 unfold F.f30 at hF
 refine PureCall.enterLe Tryd.func26 (by kernel_rfl) rfl Tryd.ntmps26 (by simp) (by simp) ?_
 repeat first|refine cg ?_|simp -dsimp
 revert hF;refine abr.sp ?_ ?_<;>intro h1 q2 hF
 ·cases hF
  repeat first|refine cg ?_|simp -dsimp[h1]
  all_goals(try first|omega|rfl)
 ·repeat first|refine cg ?_|simp -dsimp[h1,q2]
  have hF:=ob hF;obtain⟨v,e3,hF⟩:=hF
  refine((C.f25 B hB1 hB2 x.clause v e3)).goW (by first|simp[h1,q2];done|simp_all) (by simp) ?_
  have hF:=oc hF;obtain⟨c4,hF⟩:=hF
  repeat first|refine cg ?_|simp -dsimp[h1,q2]
  revert hF;refine abr.sp ?_ ?_<;>intro h5 q6 hF
  ·repeat first|refine cg ?_|simp -dsimp[h1,q2,h5]
   have hF:=ob hF;obtain⟨v7,e8,hF⟩:=hF
   refine((C.f27 B hB1 hB2 x.path v7 e8)).goW (by first|simp[h1,q2,h5];done|simp_all) (by simp) ?_
   have hF:=oc hF;obtain⟨c9,hF⟩:=hF
   repeat first|refine cg ?_|simp -dsimp[h1,q2,h5]
   have hF:=ob hF;obtain⟨o',ho32,hF⟩:=hF
   refine ALoop.goU _ ?_ (((CC.f28 B hB1 hB2 x) ((⟨#[115,119,105,116,99,104,32]⟩:ByteArray)++v7) 0 o' ho32) _ rfl _ ?_)
   ·exact(Gh.to3 (by simp) (by first|simp -dsimp[h1,q2,h5];done|simp_all))
   repeat first|refine cg ?_|simp -dsimp
   revert hF;refine abr.sp ?_ ?_<;>intro h33 q34 hF
   ·have hF:=oc hF;obtain⟨c35,hF⟩:=hF
    repeat first|refine cg ?_|simp -dsimp[h33]
    have hF:=ob hF;obtain⟨v36,e37,hF⟩:=hF
    refine(((CC.f24 B hB1 hB2) x.els v36 e37)).goW (by first|simp[h33];done|simp_all) (by simp) ?_
    have hF:=oc hF;obtain⟨c38,hF⟩:=hF
    have dc38:=c38;simp only[ByteArray.size_append]at dc38
    cases hF
    repeat first|refine cg ?_|simp -dsimp[h33]
    all_goals(try first|omega|rfl)
   ·cases hF
    repeat first|refine cg ?_|simp -dsimp[h33,q34]
    all_goals(try first|omega|rfl)
  ·repeat first|refine cg ?_|simp -dsimp[h1,q2,h5,q6]
   have hF:=ob hF;obtain⟨o'64,ho63,hF⟩:=hF
   refine ALoop.goU _ ?_ (((CC.f29 B hB1 hB2 x) ((⟨#[108,101,97,102,32]⟩:ByteArray)++v) 0 o'64 ho63) _ rfl _ ?_)
   ·exact(Gh.to3 (by simp) (by first|simp -dsimp[h1,q2,h5,q6];done|simp_all))
   repeat first|refine cg ?_|simp -dsimp
   revert hF;refine abr.sp ?_ ?_<;>intro h65 q66 hF
   ·have hF:=oc hF;obtain⟨c67,hF⟩:=hF
    repeat first|refine cg ?_|simp -dsimp[h65]
    have hF:=ob hF;obtain⟨v68,e69,hF⟩:=hF
    refine(((CC.f24 B hB1 hB2) x.els v68 e69)).goW (by first|simp[h65];done|simp_all) (by simp) ?_
    have hF:=oc hF;obtain⟨c70,hF⟩:=hF
    have dc70:=c70;simp only[ByteArray.size_append]at dc70
    cases hF
    repeat first|refine cg ?_|simp -dsimp[h65]
    all_goals(try first|omega|rfl)
   ·cases hF
    repeat first|refine cg ?_|simp -dsimp[h65,q66]
    all_goals(try first|omega|rfl)
theorem CC.f31 (list:List Vl.Node):(∀(out:ByteArray) (i:Nat) (o:ByteArray),F.f31 list out i=some o→∀(c:Code),navO [1,1,0,1,0,0] (bodyOf Tryd.f11)=some c→∀(Q:Exit→ASt→Prop),(Q (.exit 0) ⟨[(3,.lit (.string o))],[]⟩)→ALoopU Tryd.prog B 0 28 (hold c .mk) ⟨[(0,.arr (List.map Vl.Node.c list)),(3,.lit (.string out)),(4,.lit (.int .i64 (i:Int)))],[]⟩ (hold Q .mk)):=by
 refine F.f31.partial_correctness list
  _
  ?_
 ·intro _f_f31 ih_f31 out i o hF
  intro c hc Q hq
  obtain rfl:c=_:=navEq hc rfl
  refine ALoopU.know fun hk hs=> ?_
  have b0:=hk 0
  simp -dsimp at b0
  clear hk hs
  refine ALoopU.enter ?_
  repeat first|refine cg ?_|simp -dsimp
  revert hF;refine abr.sp ?_ ?_<;>intro h1 q2 hF
  ·have z3:((i:Int)<(list.length:Int)):=auz
   repeat first|refine cg ?_|simp -dsimp[h1,z3]
   have hF:=ob hF;obtain⟨v,e4,hF⟩:=hF
   refine((C.f22 B hB1 hB2 list v e4)).goW (by first|simp[h1,z3];done|simp_all) (by simp) ?_
   repeat first|refine cg ?_|simp -dsimp[h1,z3]
   revert hF;refine abr.sp (fun h5 q6 hF=> ?_) (fun h5 q6 hF=> ?_)
   ·repeat first|refine cg ?_|simp -dsimp[h1,z3,h5]
    refine ADraw.simple follows (by kernel_rfl) (by kernel_rfl) ?_
    repeat first|refine cg ?_|simp -dsimp[h1,z3,h5]
    have hF:=ob hF;obtain⟨v7,e8,hF⟩:=hF
    refine(((CC.f24 B hB1 hB2) (i:Int) v7 e8)).pgoW (by first|simp[h1,z3,h5];done|simp_all) (by simp) ?_
    have hF:=oc hF;obtain⟨c9,hF⟩:=hF
    have hF:=oc hF;obtain⟨c10,hF⟩:=hF
    have dc10:=c10;simp only[ByteArray.size_append]at dc10
    have hF:=ob hF;obtain⟨x,e11,hF⟩:=hF
    have le11:=lt_of_get e11
    repeat first|refine cg ?_|simp -dsimp[h1,z3,h5,↓e11]
    have hF:=ob hF;obtain⟨v12,e13,hF⟩:=hF
    refine((C.f30 B hB1 hB2 x v12 e13)).pgoW (by first|simp[h1,z3,h5,↓e11];done|simp_all) (by simp) ?_
    have hF:=oc hF;obtain⟨c14,hF⟩:=hF
    have dc14:=c14;simp only[ByteArray.size_append]at dc14
    have hF:=oc hF;obtain⟨c15,hF⟩:=hF
    have dc15:=c15;simp only[ByteArray.size_append]at dc15
    have w16:IntKind.i64.wrap ((i:Int)+1)=(i:Int)+1:=wrap_in (by omega) (by omega)
    repeat first|refine cg ?_|simp -dsimp[h1,z3,h5,↓e11,w16]
    refine Again.go _ ?_ ((ih_f31 ((((out++v7)++(⟨#[32]⟩:ByteArray))++v12)++(⟨#[10]⟩:ByteArray)) (i+1) o hF) _ rfl _ hq)
    exact(Gh.to3 (by simp) (by first|simp -dsimp[h1,z3,h5,↓e11,w16];done|simp_all))
   ·cases hF
    repeat first|refine cg ?_|simp -dsimp[h1,z3,h5,q6]
    refine Leave.go _ (Gh.to3 (by simp) (by first|simp -dsimp[h1,z3,h5,q6];done|simp_all)) hq
  ·have z3:¬((i:Int)<(list.length:Int)):=auz
   cases hF
   repeat first|refine cg ?_|simp -dsimp[h1,q2,z3]
   refine Leave.go _ (Gh.to3 (by simp) (by first|simp -dsimp[h1,q2,z3];done|simp_all)) hq
theorem C.f32 (list:List Vl.Node)(r:ByteArray)(hF:F.f32 list=some r):PureCall Tryd.prog B 11 [.arr (List.map Vl.Node.c list)] (.lit (.string r)):=by
 unfold F.f32 at hF
 refine PureCall.enterLe Tryd.func11 (by kernel_rfl) rfl Tryd.ntmps11 (by simp) (by simp) ?_
 repeat first|refine cg ?_|simp -dsimp
 have hF:=ob hF;obtain⟨o',ho17,hF⟩:=hF
 refine ALoop.goU _ ?_ (((CC.f31 B hB1 hB2 list) ByteArray.empty 0 o' ho17) _ rfl _ ?_)
 ·exact(Gh.to3 (by simp) (by simp -dsimp))
 cases hF
 repeat first|refine cg ?_|simp -dsimp
 all_goals(try first|omega|rfl)
theorem C.f33 (n:Int)(low:Int)(high:Int)(r:Bool)(hF:F.f33 n low high=some r):PureCall Tryd.prog B 43 [.lit (.int .i64 n),.lit (.int .i64 low),.lit (.int .i64 high)] (.lit (.bool r)):=by
 unfold F.f33 at hF
 refine PureCall.enterLe Tryd.func43 (by kernel_rfl) rfl Tryd.ntmps43 (by simp) (by simp) ?_
 repeat first|refine cg ?_|simp -dsimp
 revert hF;refine abr.sp ?_ ?_<;>intro h1 q2 hF
 ·cases hF
  repeat first|refine cg ?_|simp -dsimp[h1]
  all_goals(try first|omega|rfl)
 ·cases hF
  repeat first|refine cg ?_|simp -dsimp[h1,q2]
  all_goals(try first|omega|rfl)
theorem C.f34 (e:Vl.Edge)(a1:Int)(r:Bool)(hF:F.f34 e a1=some r):PureCall Tryd.prog B 45 [.agg [.lit (.int .i64 e.ctor),.lit (.int .i64 e.n),.lit (.int .i64 e.m),.lit (.int .i64 e.to)],.rptr [.lit (.int .i64 a1)] 0] (.lit (.bool r)):=by
 unfold F.f34 at hF
 refine PureCall.enterLe Tryd.func45 (by kernel_rfl) rfl Tryd.ntmps45 (by simp) (by simp) ?_
 repeat first|refine cg ?_|simp -dsimp
 have hF:=ob hF;obtain⟨v,e1,hF⟩:=hF
 refine((C.f33 B hB1 hB2 e.to 0 (IntKind.i64.wrap (a1-1)) v e1)).goW (by simp) (by simp) ?_
 cases hF
 repeat first|refine cg ?_|simp -dsimp
 all_goals(try first|omega|rfl)
theorem CC.f35 (s:List Vl.Edge)(k0:Int):(∀(i:Nat) (o:Lo Int Unit),F.f35 s k0 i=some o→∀(c:Code),navO [1,0,1,0,0] (bodyOf Tryd.f53)=some c→∀(Q:Exit→ASt→Prop),o.post (fun r=>∀st,Post Tryd.prog Tryd.f53 (fun r' _=>r'.le (.lit (.int .i64 r))) .ret st→Q .ret st) (fun s=>Q (.exit 0) ⟨[],[]⟩)→ALoopU Tryd.prog B 0 19 (hold c .mk) ⟨[(0,.arr (List.map Vl.Edge.c s)),(1,.fn (.func 45) [] [.rptr [.lit (.int .i64 k0)] 0]),(7,.lit (.int .i64 (s.length:Int))),(8,.lit (.int .i64 (i:Int)))],[]⟩ (hold Q .mk)):=by
 refine F.f35.partial_correctness s k0
  _
  ?_
 ·intro _f_f35 ih_f35 i o hF
  intro c hc Q hq
  obtain rfl:c=_:=navEq hc rfl
  refine ALoopU.know fun hk hs=> ?_
  have b0:=hk 0
  simp -dsimp at b0
  clear hk hs
  refine ALoopU.enter ?_
  repeat first|refine cg ?_|simp -dsimp
  revert hF;refine abr.sp ?_ ?_<;>intro h1 q2 hF
  ·have z3:((i:Int)<(s.length:Int)):=auz
   have hF:=ob hF;obtain⟨x,e4,hF⟩:=hF
   have le4:=lt_of_get e4
   repeat first|refine cg ?_|simp -dsimp[h1,z3,↓e4]
   have hF:=ob hF;obtain⟨v,e5,hF⟩:=hF
   refine((C.f34 B hB1 hB2 x k0 v e5)).goW (by first|simp[h1,z3,↓e4];done|simp_all) (by simp) ?_
   repeat first|refine cg ?_|simp -dsimp[h1,z3,↓e4]
   revert hF;refine abr.sp (fun h6 q7 hF=> ?_) (fun h6 q7 hF=> ?_)
   ·cases hF
    repeat first|refine cg ?_|simp -dsimp[h1,z3,↓e4,h6]
    refine Leave.go _ (Gh.refl _) (hq _ ?_)
    repeat first|refine cg ?_|simp -dsimp[h1,z3,↓e4,h6]
   ·have w8:IntKind.i64.wrap ((i:Int)+1)=(i:Int)+1:=wrap_in (by omega) (by omega)
    repeat first|refine cg ?_|simp -dsimp[h1,z3,↓e4,h6,q7,w8]
    refine Again.go _ ?_ ((ih_f35 (i+1) o hF) _ rfl _ hq)
    exact(Gh.to3 (by simp) (by first|simp -dsimp[h1,z3,↓e4,h6,q7,w8];done|simp_all))
  ·have z3:¬((i:Int)<(s.length:Int)):=auz
   cases hF
   repeat first|refine cg ?_|simp -dsimp[h1,q2,z3]
   refine Leave.go _ (Gh.to3 (by simp) (by first|simp -dsimp[h1,q2,z3];done|simp_all)) hq
theorem C.f36 (s:List Vl.Edge)(k0:Int)(r:Int)(hF:F.f36 s k0=some r):PureCall Tryd.prog B 53 [.arr (List.map Vl.Edge.c s),.fn (.func 45) [] [.rptr [.lit (.int .i64 k0)] 0]] (.lit (.int .i64 r)):=by
 unfold F.f36 at hF
 refine PureCall.enterLe Tryd.func53 (by kernel_rfl) rfl Tryd.ntmps53 (by simp) (by simp) ?_
 repeat first|refine cg ?_|simp -dsimp
 have hF:=ob hF;obtain⟨o',ho9,hF⟩:=hF
 refine ALoop.goU _ ?_ (((CC.f35 B hB1 hB2 s k0) 0 o' ho9) _ rfl _ ?_)
 ·exact(Gh.to3 (by simp) (by simp -dsimp))
 rcases o' with r0|sx
 ·dsimp only at hF
  cases hF
  intro st h
  simpa using h
 ·dsimp only at hF
  cases hF
  repeat first|refine cg ?_|simp -dsimp
  all_goals(try first|omega|rfl)
theorem C.f37 (s:List Vl.Edge)(k0:Int)(r:Bool)(hF:F.f37 s k0=some r):PureCall Tryd.prog B 44 [.arr (List.map Vl.Edge.c s),.fn (.func 45) [] [.rptr [.lit (.int .i64 k0)] 0]] (.lit (.bool r)):=by
 unfold F.f37 at hF
 refine PureCall.enterLe Tryd.func44 (by kernel_rfl) rfl Tryd.ntmps44 (by simp) (by simp) ?_
 repeat first|refine cg ?_|simp -dsimp
 have hF:=ob hF;obtain⟨v,e1,hF⟩:=hF
 refine((C.f36 B hB1 hB2 s k0 v e1)).goW (by simp) (by simp) ?_
 cases hF
 repeat first|refine cg ?_|simp -dsimp
 all_goals(try first|omega|rfl)
theorem CC.f38 (list:List Vl.Node):(∀(i:Nat) (o:Lo Bool Unit),F.f38 list i=some o→∀(c:Code),navO [1,0,1,0,0] (bodyOf Tryd.f28)=some c→∀(Q:Exit→ASt→Prop),o.post (fun r=>∀st,Post Tryd.prog Tryd.f28 (fun r' _=>r'.le (.lit (.bool r))) .ret st→Q .ret st) (fun s=>Q (.exit 0) ⟨[(0,.arr (List.map Vl.Node.c list))],[]⟩)→ALoopU Tryd.prog B 0 40 (hold c .mk) ⟨[(0,.arr (List.map Vl.Node.c list)),(5,.arr (List.map Vl.Node.c list)),(6,.lit (.int .i64 (list.length:Int))),(7,.lit (.int .i64 (i:Int)))],[]⟩ (hold Q .mk)):=by
 refine F.f38.partial_correctness list
  _
  ?_
 ·intro _f_f38 ih_f38 i o hF
  intro c hc Q hq
  obtain rfl:c=_:=navEq hc rfl
  refine ALoopU.know fun hk hs=> ?_
  have b0:=hk 0
  simp -dsimp at b0
  have b5:=hk 5
  simp -dsimp at b5
  clear hk hs
  refine ALoopU.enter ?_
  repeat first|refine cg ?_|simp -dsimp
  revert hF;refine abr.sp ?_ ?_<;>intro h1 q2 hF
  ·have z3:((i:Int)<(list.length:Int)):=auz
   have hF:=ob hF;obtain⟨x,e4,hF⟩:=hF
   have le4:=lt_of_get e4
   repeat first|refine cg ?_|simp -dsimp[h1,z3,↓e4]
   have hF:=ob hF;obtain⟨v,e5,hF⟩:=hF
   refine((C.f33 B hB1 hB2 x.op 0 2 v e5)).goW (by first|simp[h1,z3,↓e4];done|simp_all) (by simp) ?_
   repeat first|refine cg ?_|simp -dsimp[h1,z3,↓e4]
   revert hF;refine abr.sp (fun h6 q7 hF=> ?_) (fun h6 q7 hF=> ?_)
   ·repeat first|refine cg ?_|simp -dsimp[h1,z3,↓e4,h6]
    revert hF;refine abr.ns ?_ ?_<;>intro h8 q9 hF
    ·have z10:¬(10<(x.edges.length:Int)):=auz
     repeat first|refine cg ?_|simp -dsimp[h1,z3,↓e4,h6,h8,q9,z10]
     have hF:=ob hF;obtain⟨v11,e12,hF⟩:=hF
     refine((C.f33 B hB1 hB2 x.els (-1) (IntKind.i64.wrap ((i:Int) -1)) v11 e12)).goW (by first|simp[h1,z3,↓e4,h6,h8,q9,z10];done|simp_all) (by simp) ?_
     repeat first|refine cg ?_|simp -dsimp[h1,z3,↓e4,h6,h8,q9,z10]
     revert hF;refine abr.sp (fun h13 q14 hF=> ?_) (fun h13 q14 hF=> ?_)
     ·repeat first|refine cg ?_|simp -dsimp[h1,z3,↓e4,h6,h8,q9,z10,h13]
      have hF:=ob hF;obtain⟨v15,e16,hF⟩:=hF
      refine((C.f37 B hB1 hB2 x.edges (i:Int) v15 e16)).lend (by first|simp -dsimp[h1,z3,↓e4,h6,h8,q9,z10,h13];done|simp_all) (by simp -dsimp) ?_
      repeat first|refine cg ?_|simp -dsimp[h1,z3,↓e4,h6,h8,q9,z10,h13]
      revert hF;refine abr.sp (fun h17 q18 hF=> ?_) (fun h17 q18 hF=> ?_)
      ·cases hF
       repeat first|refine cg ?_|simp -dsimp[h1,z3,↓e4,h6,h8,q9,z10,h13,h17]
       refine Leave.go _ (Gh.refl _) (hq _ ?_)
       repeat first|refine cg ?_|simp -dsimp[h1,z3,↓e4,h6,h8,q9,z10,h13,h17]
      ·have w19:IntKind.i64.wrap ((i:Int)+1)=(i:Int)+1:=wrap_in (by omega) (by omega)
       repeat first|refine cg ?_|simp -dsimp[h1,z3,↓e4,h6,h8,q9,z10,h13,h17,q18,w19]
       refine Again.go _ ?_ ((ih_f38 (i+1) o hF) _ rfl _ hq)
       exact(Gh.to3 (by simp) (by first|simp -dsimp[h1,z3,↓e4,h6,h8,q9,z10,h13,h17,q18,w19];done|simp_all))
     ·cases hF
      repeat first|refine cg ?_|simp -dsimp[h1,z3,↓e4,h6,h8,q9,z10,h13,q14]
      refine Leave.go _ (Gh.refl _) (hq _ ?_)
      repeat first|refine cg ?_|simp -dsimp[h1,z3,↓e4,h6,h8,q9,z10,h13,q14]
    ·have z10:(10<(x.edges.length:Int)):=auz
     cases hF
     repeat first|refine cg ?_|simp -dsimp[h1,z3,↓e4,h6,h8,q9,z10]
     refine Leave.go _ (Gh.refl _) (hq _ ?_)
     repeat first|refine cg ?_|simp -dsimp[h1,z3,↓e4,h6,h8,q9,z10]
   ·cases hF
    repeat first|refine cg ?_|simp -dsimp[h1,z3,↓e4,h6,q7]
    refine Leave.go _ (Gh.refl _) (hq _ ?_)
    repeat first|refine cg ?_|simp -dsimp[h1,z3,↓e4,h6,q7]
  ·have z3:¬((i:Int)<(list.length:Int)):=auz
   cases hF
   repeat first|refine cg ?_|simp -dsimp[h1,q2,z3]
   refine Leave.go _ (Gh.to3 (by simp) (by first|simp -dsimp[h1,q2,z3];done|simp_all)) hq
theorem C.f39 (list:List Vl.Node)(r:Bool)(hF:F.f39 list=some r):PureCall Tryd.prog B 28 [.arr (List.map Vl.Node.c list)] (.lit (.bool r)):=by
 unfold F.f39 at hF
 refine PureCall.enterLe Tryd.func28 (by kernel_rfl) rfl Tryd.ntmps28 (by simp) (by simp) ?_
 repeat first|refine cg ?_|simp -dsimp
 have hF:=ob hF;obtain⟨o',ho20,hF⟩:=hF
 refine ALoop.goU _ ?_ (((CC.f38 B hB1 hB2 list) 0 o' ho20) _ rfl _ ?_)
 ·exact(Gh.to3 (by simp) (by simp -dsimp))
 rcases o' with r0|sx
 ·dsimp only at hF
  cases hF
  intro st h
  simpa using h
 ·dsimp only at hF
  repeat first|refine cg ?_|simp -dsimp
  have hF:=ob hF;obtain⟨v21,e22,hF⟩:=hF
  refine((C.f33 B hB1 hB2 (list.length:Int) 1 300 v21 e22)).goW (by simp) (by simp) ?_
  cases hF
  repeat first|refine cg ?_|simp -dsimp
  all_goals(try first|omega|rfl)
theorem C.f40 (i:Int)(r:ByteArray)(hF:F.f40 i=some r):PureCall Tryd.prog B 18 [.lit (.int .i64 i)] (.lit (.string r)):=by
 unfold F.f40 at hF
 have hF:=oc hF;obtain⟨c1,hF⟩:=hF
 cases hF
 exact shelf_itoaT Tryd.laysM171 ⟨Tryd.f18,Tryd.func18,by kernel_rfl,by kernel_rfl⟩ (by kernel_rfl) (by rfl) hB2.2 c1.1 c1.2
theorem CC.f41 (path:List Int):(∀(out:ByteArray) (i:Nat) (o:ByteArray),F.f41 path out i=some o→∀(c:Code),navO [1,1,0,1,0,0] (bodyOf Tryd.f20)=some c→∀(Q:Exit→ASt→Prop),(Q (.exit 0) ⟨[(3,.lit (.string o))],[]⟩)→ALoopU Tryd.prog B 0 19 (hold c .mk) ⟨[(3,.lit (.string out)),(6,.arr (List.map cI path)),(7,.lit (.int .i64 (path.length:Int))),(8,.lit (.int .i64 (i:Int)))],[]⟩ (hold Q .mk)):=by
 refine F.f41.partial_correctness path
  _
  ?_
 ·intro _f_f41 ih_f41 out i o hF
  intro c hc Q hq
  obtain rfl:c=_:=navEq hc rfl
  refine ALoopU.know fun hk hs=> ?_
  have b6:=hk 6
  simp -dsimp at b6
  clear hk hs
  refine ALoopU.enter ?_
  repeat first|refine cg ?_|simp -dsimp
  revert hF;refine abr.sp ?_ ?_<;>intro h1 q2 hF
  ·have z3:((i:Int)<(path.length:Int)):=auz
   have hF:=ob hF;obtain⟨x,e4,hF⟩:=hF
   have le4:=lt_of_get e4
   repeat first|refine cg ?_|simp -dsimp[h1,z3,↓e4]
   have hF:=ob hF;obtain⟨v,e5,hF⟩:=hF
   refine((C.f40 B hB1 hB2 x v e5)).goW (by first|simp[h1,z3,↓e4];done|simp_all) (by simp) ?_
   have hF:=oc hF;obtain⟨c6,hF⟩:=hF
   have hF:=oc hF;obtain⟨c7,hF⟩:=hF
   have dc7:=c7;simp only[ByteArray.size_append]at dc7
   have w8:IntKind.i64.wrap ((i:Int)+1)=(i:Int)+1:=wrap_in (by omega) (by omega)
   repeat first|refine cg ?_|simp -dsimp[h1,z3,↓e4,w8]
   refine Again.go _ ?_ ((ih_f41 (out++((⟨#[46]⟩:ByteArray)++v)) (i+1) o hF) _ rfl _ hq)
   exact(Gh.to3 (by simp) (by first|simp -dsimp[h1,z3,↓e4,w8];done|simp_all))
  ·have z3:¬((i:Int)<(path.length:Int)):=auz
   cases hF
   repeat first|refine cg ?_|simp -dsimp[h1,q2,z3]
   refine Leave.go _ (Gh.to3 (by simp) (by first|simp -dsimp[h1,q2,z3];done|simp_all)) hq
theorem C.f42 (path:List Int)(r:ByteArray)(hF:F.f42 path=some r):PureCall Tryd.prog B 20 [.arr (List.map cI path)] (.lit (.string r)):=by
 unfold F.f42 at hF
 refine PureCall.enterLe Tryd.func20 (by kernel_rfl) rfl Tryd.ntmps20 (by simp) (by simp) ?_
 repeat first|refine cg ?_|simp -dsimp
 have hF:=ob hF;obtain⟨o',ho9,hF⟩:=hF
 refine ALoop.goU _ ?_ (((CC.f41 B hB1 hB2 path) (⟨#[118]⟩:ByteArray) 0 o' ho9) _ rfl _ ?_)
 ·exact(Gh.to3 (by simp) (by simp -dsimp))
 cases hF
 repeat first|refine cg ?_|simp -dsimp
 all_goals(try first|omega|rfl)
theorem CC.f43 (list:List Vl.Node)(out:List Int)(i:Nat)(x:Vl.Node):(∀(i21:Nat) (s:ByteArray) (o:ByteArray),F.f43 list out i x i21 s=some o→∀(c:Code),navO [1,1,1,0,1,0,0,1,1,0,0,1,1,1,0,1,0,0] (bodyOf Tryd.f13)=some c→∀(Q:Exit→ASt→Prop),(Q (.exit 3) ⟨[(3,.ptr 0 0),(5,.ptr 2 0),(6,.lit (.string o)),(12,.arr (List.map Vl.Node.c list)),(13,.lit (.int .i64 (list.length:Int))),(14,.lit (.int .i64 (i:Int)))],[.tcells (some 49) [.junk,.own 1 (List.length (α:=Int) out)],.telems (some 5) 1 (List.map cU out),.cells [.lit (.int .i64 x.op),.lit (.int .i64 x.clause),.arr (List.map PathBind.c x.binds),.arr (List.map cI x.path),.arr (List.map Vl.Edge.c x.edges),.lit (.int .i64 x.els)]]⟩)→ALoopU Tryd.prog B 0 85 (hold c .mk) ⟨[(3,.ptr 0 0),(5,.ptr 2 0),(6,.lit (.string s)),(12,.arr (List.map Vl.Node.c list)),(13,.lit (.int .i64 (list.length:Int))),(14,.lit (.int .i64 (i:Int))),(43,.arr (List.map Vl.Edge.c x.edges)),(44,.lit (.int .i64 (x.edges.length:Int))),(45,.lit (.int .i64 (i21:Int)))],[.tcells (some 49) [.junk,.own 1 (List.length (α:=Int) out)],.telems (some 5) 1 (List.map cU out),.cells [.lit (.int .i64 x.op),.lit (.int .i64 x.clause),.arr (List.map PathBind.c x.binds),.arr (List.map cI x.path),.arr (List.map Vl.Edge.c x.edges),.lit (.int .i64 x.els)]]⟩ (hold Q .mk)):=by
 refine F.f43.partial_correctness list out i x
  _
  ?_
 ·intro _f_f43 ih_f43 i21 s o hF
  intro c hc Q hq
  obtain rfl:c=_:=navEq hc rfl
  refine ALoopU.know fun hk hs=> ?_
  have b12:=hk 12
  simp -dsimp at b12
  have b43:=hk 43
  simp -dsimp at b43
  have d1:=hs 1 _ rfl
  simp -dsimp[Blk.bnd]at d1
  have d2:=hs 2 _ rfl
  simp -dsimp[Blk.bnd]at d2
  clear hk hs
  refine ALoopU.enter ?_
  repeat first|refine cg ?_|simp -dsimp
  revert hF;refine abr.sp ?_ ?_<;>intro h22 q23 hF
  ·have z24:((i21:Int)<(x.edges.length:Int)):=auz
   have hF:=ob hF;obtain⟨x25,e26,hF⟩:=hF
   have le26:=lt_of_get e26
   repeat first|refine cg ?_|simp -dsimp[h22,z24,↓e26]
   refine ADraw.simple follows (by kernel_rfl) (by kernel_rfl) ?_
   repeat first|refine cg ?_|simp -dsimp[h22,z24,↓e26]
   have hF:=ob hF;obtain⟨v27,e28,hF⟩:=hF
   refine((C.f40 B hB1 hB2 x25.ctor v27 e28)).pgoW (by first|simp[h22,z24,↓e26];done|simp_all) (by simp) ?_
   have hF:=oc hF;obtain⟨c29,hF⟩:=hF
   have hF:=oc hF;obtain⟨c30,hF⟩:=hF
   have dc30:=c30;simp only[ByteArray.size_append]at dc30
   repeat first|refine cg ?_|simp -dsimp[h22,z24,↓e26]
   have hF:=ob hF;obtain⟨v31,e32,hF⟩:=hF
   refine((C.f40 B hB1 hB2 x25.n v31 e32)).pgoW (by first|simp[h22,z24,↓e26];done|simp_all) (by simp) ?_
   have hF:=oc hF;obtain⟨c33,hF⟩:=hF
   have dc33:=c33;simp only[ByteArray.size_append]at dc33
   have hF:=oc hF;obtain⟨c34,hF⟩:=hF
   have dc34:=c34;simp only[ByteArray.size_append]at dc34
   repeat first|refine cg ?_|simp -dsimp[h22,z24,↓e26]
   have hF:=ob hF;obtain⟨v35,e36,hF⟩:=hF
   refine((C.f40 B hB1 hB2 x25.m v35 e36)).pgoW (by first|simp[h22,z24,↓e26];done|simp_all) (by simp) ?_
   have hF:=oc hF;obtain⟨c37,hF⟩:=hF
   have dc37:=c37;simp only[ByteArray.size_append]at dc37
   have hF:=oc hF;obtain⟨c38,hF⟩:=hF
   have dc38:=c38;simp only[ByteArray.size_append]at dc38
   repeat first|refine cg ?_|simp -dsimp[h22,z24,↓e26]
   have hF:=ob hF;obtain⟨v39,e40,hF⟩:=hF
   refine((C.f40 B hB1 hB2 x25.to v39 e40)).pgoW (by first|simp[h22,z24,↓e26];done|simp_all) (by simp) ?_
   have hF:=oc hF;obtain⟨c41,hF⟩:=hF
   have dc41:=c41;simp only[ByteArray.size_append]at dc41
   have hF:=oc hF;obtain⟨c42,hF⟩:=hF
   have dc42:=c42;simp only[ByteArray.size_append]at dc42
   have w43:IntKind.i64.wrap ((i21:Int)+1)=(i21:Int)+1:=wrap_in (by omega) (by omega)
   repeat first|refine cg ?_|simp -dsimp[h22,z24,↓e26,w43]
   refine Again.go _ ?_ ((ih_f43 (i21+1) (s++((((((((⟨#[32]⟩:ByteArray)++v27)++(⟨#[58]⟩:ByteArray))++v31)++(⟨#[45]⟩:ByteArray))++v35)++(⟨#[62]⟩:ByteArray))++v39)) o hF) _ rfl _ hq)
   exact(Gh.to3 (by simp) (by first|simp -dsimp[h22,z24,↓e26,w43];done|simp_all))
  ·have z24:¬((i21:Int)<(x.edges.length:Int)):=auz
   cases hF
   repeat first|refine cg ?_|simp -dsimp[h22,q23,z24]
   refine Leave.go _ (Gh.to3 (by simp) (by first|simp -dsimp[h22,q23,z24];done|simp_all)) hq
theorem CC.f44 (list:List Vl.Node)(out:List Int)(i:Nat)(x:Vl.Node):(∀(i63:Nat) (s64:ByteArray) (o:ByteArray),F.f44 list out i x i63 s64=some o→∀(c:Code),navO [1,1,1,0,1,0,0,1,1,0,0,1,1,1,0,1,0,0] (bodyOf Tryd.f13)=some c→∀(Q:Exit→ASt→Prop),(Q (.exit 3) ⟨[(3,.ptr 0 0),(5,.ptr 2 0),(6,.lit (.string o)),(12,.arr (List.map Vl.Node.c list)),(13,.lit (.int .i64 (list.length:Int))),(14,.lit (.int .i64 (i:Int)))],[.tcells (some 49) [.junk,.own 1 (List.length (α:=Int) out)],.telems (some 5) 1 (List.map cU out),.cells [.lit (.int .i64 x.op),.lit (.int .i64 x.clause),.arr (List.map PathBind.c x.binds),.arr (List.map cI x.path),.arr (List.map Vl.Edge.c x.edges),.lit (.int .i64 x.els)]]⟩)→ALoopU Tryd.prog B 0 85 (hold c .mk) ⟨[(3,.ptr 0 0),(5,.ptr 2 0),(6,.lit (.string s64)),(12,.arr (List.map Vl.Node.c list)),(13,.lit (.int .i64 (list.length:Int))),(14,.lit (.int .i64 (i:Int))),(43,.arr (List.map Vl.Edge.c x.edges)),(44,.lit (.int .i64 (x.edges.length:Int))),(45,.lit (.int .i64 (i63:Int)))],[.tcells (some 49) [.junk,.own 1 (List.length (α:=Int) out)],.telems (some 5) 1 (List.map cU out),.cells [.lit (.int .i64 x.op),.lit (.int .i64 x.clause),.arr (List.map PathBind.c x.binds),.arr (List.map cI x.path),.arr (List.map Vl.Edge.c x.edges),.lit (.int .i64 x.els)]]⟩ (hold Q .mk)):=by
 refine F.f44.partial_correctness list out i x
  _
  ?_
 ·intro _f_f44 ih_f44 i63 s64 o hF
  intro c hc Q hq
  obtain rfl:c=_:=navEq hc rfl
  refine ALoopU.know fun hk hs=> ?_
  have b12:=hk 12
  simp -dsimp at b12
  have b43:=hk 43
  simp -dsimp at b43
  have d1:=hs 1 _ rfl
  simp -dsimp[Blk.bnd]at d1
  have d2:=hs 2 _ rfl
  simp -dsimp[Blk.bnd]at d2
  clear hk hs
  refine ALoopU.enter ?_
  repeat first|refine cg ?_|simp -dsimp
  revert hF;refine abr.sp ?_ ?_<;>intro h65 q66 hF
  ·have z67:((i63:Int)<(x.edges.length:Int)):=auz
   have hF:=ob hF;obtain⟨x68,e69,hF⟩:=hF
   have le69:=lt_of_get e69
   repeat first|refine cg ?_|simp -dsimp[h65,z67,↓e69]
   refine ADraw.simple follows (by kernel_rfl) (by kernel_rfl) ?_
   repeat first|refine cg ?_|simp -dsimp[h65,z67,↓e69]
   have hF:=ob hF;obtain⟨v70,e71,hF⟩:=hF
   refine((C.f40 B hB1 hB2 x68.ctor v70 e71)).pgoW (by first|simp[h65,z67,↓e69];done|simp_all) (by simp) ?_
   have hF:=oc hF;obtain⟨c72,hF⟩:=hF
   have hF:=oc hF;obtain⟨c73,hF⟩:=hF
   have dc73:=c73;simp only[ByteArray.size_append]at dc73
   repeat first|refine cg ?_|simp -dsimp[h65,z67,↓e69]
   have hF:=ob hF;obtain⟨v74,e75,hF⟩:=hF
   refine((C.f40 B hB1 hB2 x68.n v74 e75)).pgoW (by first|simp[h65,z67,↓e69];done|simp_all) (by simp) ?_
   have hF:=oc hF;obtain⟨c76,hF⟩:=hF
   have dc76:=c76;simp only[ByteArray.size_append]at dc76
   have hF:=oc hF;obtain⟨c77,hF⟩:=hF
   have dc77:=c77;simp only[ByteArray.size_append]at dc77
   repeat first|refine cg ?_|simp -dsimp[h65,z67,↓e69]
   have hF:=ob hF;obtain⟨v78,e79,hF⟩:=hF
   refine((C.f40 B hB1 hB2 x68.m v78 e79)).pgoW (by first|simp[h65,z67,↓e69];done|simp_all) (by simp) ?_
   have hF:=oc hF;obtain⟨c80,hF⟩:=hF
   have dc80:=c80;simp only[ByteArray.size_append]at dc80
   have hF:=oc hF;obtain⟨c81,hF⟩:=hF
   have dc81:=c81;simp only[ByteArray.size_append]at dc81
   repeat first|refine cg ?_|simp -dsimp[h65,z67,↓e69]
   have hF:=ob hF;obtain⟨v82,e83,hF⟩:=hF
   refine((C.f40 B hB1 hB2 x68.to v82 e83)).pgoW (by first|simp[h65,z67,↓e69];done|simp_all) (by simp) ?_
   have hF:=oc hF;obtain⟨c84,hF⟩:=hF
   have dc84:=c84;simp only[ByteArray.size_append]at dc84
   have hF:=oc hF;obtain⟨c85,hF⟩:=hF
   have dc85:=c85;simp only[ByteArray.size_append]at dc85
   have w86:IntKind.i64.wrap ((i63:Int)+1)=(i63:Int)+1:=wrap_in (by omega) (by omega)
   repeat first|refine cg ?_|simp -dsimp[h65,z67,↓e69,w86]
   refine Again.go _ ?_ ((ih_f44 (i63+1) (s64++((((((((⟨#[32]⟩:ByteArray)++v70)++(⟨#[58]⟩:ByteArray))++v74)++(⟨#[45]⟩:ByteArray))++v78)++(⟨#[62]⟩:ByteArray))++v82)) o hF) _ rfl _ hq)
   exact(Gh.to3 (by simp) (by first|simp -dsimp[h65,z67,↓e69,w86];done|simp_all))
  ·have z67:¬((i63:Int)<(x.edges.length:Int)):=auz
   cases hF
   repeat first|refine cg ?_|simp -dsimp[h65,q66,z67]
   refine Leave.go _ (Gh.to3 (by simp) (by first|simp -dsimp[h65,q66,z67];done|simp_all)) hq
theorem CC.f45 (list:List Vl.Node):(∀(out:List Int) (i:Nat) (o:List Int),F.f45 list out i=some o→∀(c:Code),navO [1,1,1,0,1,0,0] (bodyOf Tryd.f13)=some c→∀(Q:Exit→ASt→Prop),(Q (.exit 0) ⟨[(3,.ptr 0 0)],[.tcells (some 49) [.junk,.own 1 (List.length (α:=Int) o)],.telems (some 5) 1 (List.map cU o)]⟩)→ALoopU Tryd.prog B 0 85 (hold c .mk) ⟨[(3,.ptr 0 0),(12,.arr (List.map Vl.Node.c list)),(13,.lit (.int .i64 (list.length:Int))),(14,.lit (.int .i64 (i:Int)))],[.tcells (some 49) [.junk,.own 1 (List.length (α:=Int) out)],.telems (some 5) 1 (List.map cU out)]⟩ (hold Q .mk)):=by
 refine F.f45.partial_correctness list
  _
  ?_
 ·intro _f_f45 ih_f45 out i o hF
  intro c hc Q hq
  obtain rfl:c=_:=navEq hc rfl
  refine ALoopU.know fun hk hs=> ?_
  have b12:=hk 12
  simp -dsimp at b12
  have d1:=hs 1 _ rfl
  simp -dsimp[Blk.bnd]at d1
  clear hk hs
  refine ALoopU.enter ?_
  repeat first|refine cg ?_|simp -dsimp
  revert hF;refine abr.sp ?_ ?_<;>intro h4 q5 hF
  ·have z6:((i:Int)<(list.length:Int)):=auz
   have hF:=ob hF;obtain⟨x,e7,hF⟩:=hF
   have le7:=lt_of_get e7
   repeat first|refine cg ?_|simp -dsimp[h4,z6,↓e7]
   have hF:=ob hF;obtain⟨v8,e9,hF⟩:=hF
   refine((C.f40 B hB1 hB2 (i:Int) v8 e9)).goW (by first|simp[h4,z6,↓e7];done|simp_all) (by simp) ?_
   repeat first|refine cg ?_|simp -dsimp[h4,z6,↓e7]
   revert hF;refine abr.sp ?_ ?_<;>intro h10 q11 hF
   ·have hF:=oc hF;obtain⟨c12,hF⟩:=hF
    have hF:=oc hF;obtain⟨c13,hF⟩:=hF
    have dc13:=c13;simp only[List.length_append,ByteArray.size_append]at dc13
    repeat first|refine cg ?_|simp -dsimp[h4,z6,↓e7,h10]
    refine ACall.bldW Tryd.bldW ⟨Tryd.f19,Tryd.func19,by kernel_rfl,by kernel_rfl⟩ 0 1 (xs:=out) (by first|rfl|(simp;done)|(simp[h4,z6,↓e7,h10];done)) (by first|rfl|(simp;done)|(simp[h4,z6,↓e7,h10];done)) (by first|omega|simpa using c13|(simp;omega)) (by omega) ?_
    have w14:IntKind.i64.wrap ((i:Int)+1)=(i:Int)+1:=wrap_in (by omega) (by omega)
    repeat first|refine cg ?_|simp -dsimp[h4,z6,↓e7,h10,w14]
    refine Again.go _ ?_ ((ih_f45 (out++bytesI (v8++(⟨#[32,102,97,105,108,10]⟩:ByteArray))) (i+1) o hF) _ rfl _ hq)
    exact(Gh.to3 (by simp) (by first|simp -dsimp[h4,z6,↓e7,h10,w14];done|simp_all))
   ·repeat first|refine cg ?_|simp -dsimp[h4,z6,↓e7,h10,q11]
    revert hF;refine abr.sp ?_ ?_<;>intro h15 q16 hF
    ·repeat first|refine cg ?_|simp -dsimp[h4,z6,↓e7,h10,q11,h15]
     have hF:=ob hF;obtain⟨v17,e18,hF⟩:=hF
     refine((C.f40 B hB1 hB2 x.clause v17 e18)).goW (by first|simp[h4,z6,↓e7,h10,q11,h15];done|simp_all) (by simp) ?_
     have hF:=oc hF;obtain⟨c19,hF⟩:=hF
     have hF:=oc hF;obtain⟨c20,hF⟩:=hF
     have dc20:=c20;simp only[ByteArray.size_append]at dc20
     repeat first|refine cg ?_|simp -dsimp[h4,z6,↓e7,h10,q11,h15]
     have hF:=ob hF;obtain⟨o',ho44,hF⟩:=hF
     refine ALoop.goU _ ?_ (((CC.f43 B hB1 hB2 list out i x) 0 (v8++((⟨#[32,108,101,97,102,32]⟩:ByteArray)++v17)) o' ho44) _ rfl _ ?_)
     ·exact(Gh.to3 (by simp) (by first|simp -dsimp[h4,z6,↓e7,h10,q11,h15];done|simp_all))
     repeat first|refine cg ?_|simp -dsimp
     revert hF;refine abr.sp ?_ ?_<;>intro h45 q46 hF
     ·repeat first|refine cg ?_|simp -dsimp[h45]
      have hF:=ob hF;obtain⟨v47,e48,hF⟩:=hF
      refine((C.f40 B hB1 hB2 x.els v47 e48)).goW (by first|simp[h45];done|simp_all) (by simp) ?_
      have hF:=oc hF;obtain⟨c49,hF⟩:=hF
      have hF:=oc hF;obtain⟨c50,hF⟩:=hF
      have dc50:=c50;simp only[ByteArray.size_append]at dc50
      have hF:=oc hF;obtain⟨c51,hF⟩:=hF
      have dc51:=c51;simp only[ByteArray.size_append]at dc51
      have hF:=oc hF;obtain⟨c52,hF⟩:=hF
      have dc52:=c52;simp only[List.length_append,ByteArray.size_append]at dc52
      repeat first|refine cg ?_|simp -dsimp[h45]
      refine ACall.bldW Tryd.bldW ⟨Tryd.f19,Tryd.func19,by kernel_rfl,by kernel_rfl⟩ 0 1 (xs:=out) (by first|rfl|(simp;done)|(simp[h45];done)) (by first|rfl|(simp;done)|(simp[h45];done)) (by first|omega|simpa using c52|(simp;omega)) (by omega) ?_
      have hF:=oc hF;obtain⟨c53,hF⟩:=hF
      have w54:IntKind.i64.wrap ((i:Int)+1)=(i:Int)+1:=wrap_in (by omega) (by omega)
      repeat first|refine cg ?_|simp -dsimp[h45,w54]
      refine Again.go _ ?_ ((ih_f45 (out++bytesI ((o'++((⟨#[32,101,108,115,101,32]⟩:ByteArray)++v47))++(⟨#[10]⟩:ByteArray))) (i+1) o hF) _ rfl _ hq)
      exact(Gh.to3 (by simp) (by first|simp -dsimp[h45,w54];done|simp_all))
     ·have hF:=oc hF;obtain⟨c55,hF⟩:=hF
      have hF:=oc hF;obtain⟨c56,hF⟩:=hF
      have dc56:=c56;simp only[List.length_append,ByteArray.size_append]at dc56
      repeat first|refine cg ?_|simp -dsimp[h45,q46]
      refine ACall.bldW Tryd.bldW ⟨Tryd.f19,Tryd.func19,by kernel_rfl,by kernel_rfl⟩ 0 1 (xs:=out) (by first|rfl|(simp;done)|(simp[h45,q46];done)) (by first|rfl|(simp;done)|(simp[h45,q46];done)) (by first|omega|simpa using c56|(simp;omega)) (by omega) ?_
      have hF:=oc hF;obtain⟨c57,hF⟩:=hF
      have w58:IntKind.i64.wrap ((i:Int)+1)=(i:Int)+1:=wrap_in (by omega) (by omega)
      repeat first|refine cg ?_|simp -dsimp[h45,q46,w58]
      refine Again.go _ ?_ ((ih_f45 (out++bytesI (o'++(⟨#[10]⟩:ByteArray))) (i+1) o hF) _ rfl _ hq)
      exact(Gh.to3 (by simp) (by first|simp -dsimp[h45,q46,w58];done|simp_all))
    ·repeat first|refine cg ?_|simp -dsimp[h4,z6,↓e7,h10,q11,h15,q16]
     have hF:=ob hF;obtain⟨v59,e60,hF⟩:=hF
     refine((C.f42 B hB1 hB2 x.path v59 e60)).goW (by first|simp[h4,z6,↓e7,h10,q11,h15,q16];done|simp_all) (by simp) ?_
     have hF:=oc hF;obtain⟨c61,hF⟩:=hF
     have hF:=oc hF;obtain⟨c62,hF⟩:=hF
     have dc62:=c62;simp only[ByteArray.size_append]at dc62
     repeat first|refine cg ?_|simp -dsimp[h4,z6,↓e7,h10,q11,h15,q16]
     have hF:=ob hF;obtain⟨o'88,ho87,hF⟩:=hF
     refine ALoop.goU _ ?_ (((CC.f44 B hB1 hB2 list out i x) 0 (v8++((⟨#[32,115,119,105,116,99,104,32]⟩:ByteArray)++v59)) o'88 ho87) _ rfl _ ?_)
     ·exact(Gh.to3 (by simp) (by first|simp -dsimp[h4,z6,↓e7,h10,q11,h15,q16];done|simp_all))
     repeat first|refine cg ?_|simp -dsimp
     revert hF;refine abr.sp ?_ ?_<;>intro h89 q90 hF
     ·repeat first|refine cg ?_|simp -dsimp[h89]
      have hF:=ob hF;obtain⟨v91,e92,hF⟩:=hF
      refine((C.f40 B hB1 hB2 x.els v91 e92)).goW (by first|simp[h89];done|simp_all) (by simp) ?_
      have hF:=oc hF;obtain⟨c93,hF⟩:=hF
      have hF:=oc hF;obtain⟨c94,hF⟩:=hF
      have dc94:=c94;simp only[ByteArray.size_append]at dc94
      have hF:=oc hF;obtain⟨c95,hF⟩:=hF
      have dc95:=c95;simp only[ByteArray.size_append]at dc95
      have hF:=oc hF;obtain⟨c96,hF⟩:=hF
      have dc96:=c96;simp only[List.length_append,ByteArray.size_append]at dc96
      repeat first|refine cg ?_|simp -dsimp[h89]
      refine ACall.bldW Tryd.bldW ⟨Tryd.f19,Tryd.func19,by kernel_rfl,by kernel_rfl⟩ 0 1 (xs:=out) (by first|rfl|(simp;done)|(simp[h89];done)) (by first|rfl|(simp;done)|(simp[h89];done)) (by first|omega|simpa using c96|(simp;omega)) (by omega) ?_
      have hF:=oc hF;obtain⟨c97,hF⟩:=hF
      have w98:IntKind.i64.wrap ((i:Int)+1)=(i:Int)+1:=wrap_in (by omega) (by omega)
      repeat first|refine cg ?_|simp -dsimp[h89,w98]
      refine Again.go _ ?_ ((ih_f45 (out++bytesI ((o'88++((⟨#[32,101,108,115,101,32]⟩:ByteArray)++v91))++(⟨#[10]⟩:ByteArray))) (i+1) o hF) _ rfl _ hq)
      exact(Gh.to3 (by simp) (by first|simp -dsimp[h89,w98];done|simp_all))
     ·have hF:=oc hF;obtain⟨c99,hF⟩:=hF
      have hF:=oc hF;obtain⟨c100,hF⟩:=hF
      have dc100:=c100;simp only[List.length_append,ByteArray.size_append]at dc100
      repeat first|refine cg ?_|simp -dsimp[h89,q90]
      refine ACall.bldW Tryd.bldW ⟨Tryd.f19,Tryd.func19,by kernel_rfl,by kernel_rfl⟩ 0 1 (xs:=out) (by first|rfl|(simp;done)|(simp[h89,q90];done)) (by first|rfl|(simp;done)|(simp[h89,q90];done)) (by first|omega|simpa using c100|(simp;omega)) (by omega) ?_
      have hF:=oc hF;obtain⟨c101,hF⟩:=hF
      have w102:IntKind.i64.wrap ((i:Int)+1)=(i:Int)+1:=wrap_in (by omega) (by omega)
      repeat first|refine cg ?_|simp -dsimp[h89,q90,w102]
      refine Again.go _ ?_ ((ih_f45 (out++bytesI (o'88++(⟨#[10]⟩:ByteArray))) (i+1) o hF) _ rfl _ hq)
      exact(Gh.to3 (by simp) (by first|simp -dsimp[h89,q90,w102];done|simp_all))
  ·have z6:¬((i:Int)<(list.length:Int)):=auz
   cases hF
   repeat first|refine cg ?_|simp -dsimp[h4,q5,z6]
   refine Leave.go _ (Gh.to3 (by simp) (by first|simp -dsimp[h4,q5,z6];done|simp_all)) hq
theorem C.f46 (list:List Vl.Node)(r:ByteArray)(hF:F.f46 list=some r):PureCall Tryd.prog B 13 [.arr (List.map Vl.Node.c list)] (.lit (.string r)):=by
 unfold F.f46 at hF
 refine PureCall.enterLe Tryd.func13 (by kernel_rfl) rfl Tryd.ntmps13 (by simp) (by simp) ?_
 repeat first|refine cg ?_|simp -dsimp
 have hF:=ob hF;obtain⟨v,e1,hF⟩:=hF
 refine((C.f39 B hB1 hB2 list v e1)).goW (by simp) (by simp) ?_
 repeat first|refine cg ?_|simp -dsimp
 revert hF;refine abr.ns (fun h2 q3 hF=> ?_) (fun h2 q3 hF=> ?_)
 ·cases hF
  repeat first|refine cg ?_|simp -dsimp[h2,q3]
  all_goals(try first|omega|rfl)
 ·repeat first|refine cg ?_|simp -dsimp[h2,q3]
  have hF:=ob hF;obtain⟨o'104,ho103,hF⟩:=hF
  refine ALoop.goU ⟨[(3,.ptr 0 0),(12,.arr (List.map Vl.Node.c list)),(13,.lit (.int .i64 (list.length:Int))),(14,.lit (.int .i64 0))],[.tcells (some 49) [.junk,.own 1 (List.length (α:=Int) [])],.telems (some 5) 1 (List.map cU [])]⟩ (by refine Gh.trans (Gh.nilCellT 49 5 0 1 1 (by simp -dsimp;rfl) (by simp -dsimp)) ?_;exact(Gh.to3 (by simp) (by first|simp -dsimp[h2,q3];done|simp_all))) ?_
  refine((CC.f45 B hB1 hB2 list) [] 0 o'104 ho103) _ rfl _ ?_
  have hF:=oc hF;obtain⟨c105,hF⟩:=hF
  repeat first|refine cg ?_|simp -dsimp
  refine ACall.bldS Tryd.lays169 Tryd.Builder_Extra_169 (f:=21) (T:=49) (E:=5) (by rfl) (by rfl) (by rfl) ⟨Tryd.f21,Tryd.func21,by kernel_rfl,by kernel_rfl⟩ 0 1 (xs:=o'104) (by first|rfl|simp) (by first|rfl|simp) c105.1 c105.2 ?_
  cases hF
  repeat first|refine cg ?_|simp -dsimp
  all_goals(try first|omega|rfl)
theorem CC.f47 (a:List Int)(b:List Int):(∀(i:Nat) (o:Lo Bool Unit),F.f47 a b i=some o→∀(c:Code),navO [1,1,0,1,0,0] (bodyOf Tryd.f38)=some c→∀(Q:Exit→ASt→Prop),o.post (fun r=>∀st,Post Tryd.prog Tryd.f38 (fun r' _=>r'.le (.lit (.bool r))) .ret st→Q .ret st) (fun s=>Q (.exit 0) ⟨[],[]⟩)→ALoopU Tryd.prog B 0 26 (hold c .mk) ⟨[(0,.arr (List.map cI a)),(1,.arr (List.map cI b)),(5,.lit (.int .i64 (i:Int)))],[]⟩ (hold Q .mk)):=by
 refine F.f47.partial_correctness a b
  _
  ?_
 ·intro _f_f47 ih_f47 i o hF
  intro c hc Q hq
  obtain rfl:c=_:=navEq hc rfl
  refine ALoopU.know fun hk hs=> ?_
  have b0:=hk 0
  simp -dsimp at b0
  have b1:=hk 1
  simp -dsimp at b1
  clear hk hs
  refine ALoopU.enter ?_
  repeat first|refine cg ?_|simp -dsimp
  revert hF;refine abr.sp ?_ ?_<;>intro h4 q5 hF
  ·have z6:((i:Int)<(a.length:Int)):=auz
   repeat first|refine cg ?_|simp -dsimp[h4,z6]
   refine ADraw.simple follows (by kernel_rfl) (by kernel_rfl) ?_
   have hF:=ob hF;obtain⟨x,e7,hF⟩:=hF
   have le7:=lt_of_get e7
   have hF:=ob hF;obtain⟨x8,e9,hF⟩:=hF
   have le9:=lt_of_get e9
   repeat first|refine cg ?_|simp -dsimp[h4,z6,↓e7,↓e9]
   revert hF;refine abr.ns ?_ ?_<;>intro h10 q11 hF
   ·cases hF
    repeat first|refine cg ?_|simp -dsimp[h4,z6,↓e7,↓e9,h10,q11]
    refine Leave.go _ (Gh.refl _) (hq _ ?_)
    repeat first|refine cg ?_|simp -dsimp[h4,z6,↓e7,↓e9,h10,q11]
   ·have w12:IntKind.i64.wrap ((i:Int)+1)=(i:Int)+1:=wrap_in (by omega) (by omega)
    repeat first|refine cg ?_|simp -dsimp[h4,z6,↓e7,↓e9,h10,q11,w12]
    refine Again.go _ ?_ ((ih_f47 (i+1) o hF) _ rfl _ hq)
    exact(Gh.to3 (by simp) (by first|simp -dsimp[h4,z6,↓e7,↓e9,h10,q11,w12];done|simp_all))
  ·have z6:¬((i:Int)<(a.length:Int)):=auz
   cases hF
   repeat first|refine cg ?_|simp -dsimp[h4,q5,z6]
   refine Leave.go _ (Gh.to3 (by simp) (by first|simp -dsimp[h4,q5,z6];done|simp_all)) hq
theorem C.f48 (a:List Int)(b:List Int)(r:Bool)(hF:F.f48 a b=some r):PureCall Tryd.prog B 38 [.arr (List.map cI a),.arr (List.map cI b)] (.lit (.bool r)):=by
 unfold F.f48 at hF
 refine PureCall.enterLe Tryd.func38 (by kernel_rfl) rfl Tryd.ntmps38 (by simp) (by simp) ?_
 repeat first|refine cg ?_|simp -dsimp
 revert hF;refine abr.ns ?_ ?_<;>intro h1 q2 hF
 ·have z3:¬((a.length:Int)=(b.length:Int)):=auz
  cases hF
  repeat first|refine cg ?_|simp -dsimp[h1,q2,z3]
  all_goals(try first|omega|rfl)
 ·have z3:((a.length:Int)=(b.length:Int)):=auz
  repeat first|refine cg ?_|simp -dsimp[h1,q2,z3]
  have hF:=ob hF;obtain⟨o',ho13,hF⟩:=hF
  refine ALoop.goU _ ?_ (((CC.f47 B hB1 hB2 a b) 0 o' ho13) _ rfl _ ?_)
  ·exact(Gh.to3 (by simp) (by first|simp -dsimp[h1,q2,z3];done|simp_all))
  rcases o' with r0|sx
  ·dsimp only at hF
   cases hF
   intro st h
   simpa using h
  ·dsimp only at hF
   cases hF
   repeat first|refine cg ?_|simp -dsimp
   all_goals(try first|omega|rfl)
theorem C.f49 (a:PathBind)(b:PathBind)(r:Bool)(hF:F.f49 a b=some r):PureCall Tryd.prog B 51 [.agg [.lit (.int .i64 a.var),.arr (List.map cI a.path)],.agg [.lit (.int .i64 b.var),.arr (List.map cI b.path)]] (.lit (.bool r)):=by
 unfold F.f49 at hF
 refine PureCall.enterLe Tryd.func51 (by kernel_rfl) rfl Tryd.ntmps51 (by simp) (by simp) ?_
 repeat first|refine cg ?_|simp -dsimp
 revert hF;refine abr.ns ?_ ?_<;>intro h1 q2 hF
 ·cases hF
  repeat first|refine cg ?_|simp -dsimp[h1,q2]
  all_goals(try first|omega|rfl)
 ·repeat first|refine cg ?_|simp -dsimp[h1,q2]
  have hF:=ob hF;obtain⟨v,e3,hF⟩:=hF
  refine((C.f48 B hB1 hB2 a.path b.path v e3)).goW (by first|simp[h1,q2];done|simp_all) (by simp) ?_
  repeat first|refine cg ?_|simp -dsimp[h1,q2]
  revert hF;refine abr.ns (fun h4 q5 hF=> ?_) (fun h4 q5 hF=> ?_)
  ·cases hF
   repeat first|refine cg ?_|simp -dsimp[h1,q2,h4,q5]
   all_goals(try first|omega|rfl)
  ·cases hF
   repeat first|refine cg ?_|simp -dsimp[h1,q2,h4,q5]
   all_goals(try first|omega|rfl)
theorem CC.f50 (a:List PathBind)(b:List PathBind):(∀(i:Nat) (o:Lo Bool Unit),F.f50 a b i=some o→∀(c:Code),navO [1,1,0,1,0,0] (bodyOf Tryd.f39)=some c→∀(Q:Exit→ASt→Prop),o.post (fun r=>∀st,Post Tryd.prog Tryd.f39 (fun r' _=>r'.le (.lit (.bool r))) .ret st→Q .ret st) (fun s=>Q (.exit 0) ⟨[],[]⟩)→ALoopU Tryd.prog B 0 27 (hold c .mk) ⟨[(0,.arr (List.map PathBind.c a)),(1,.arr (List.map PathBind.c b)),(5,.lit (.int .i64 (i:Int)))],[]⟩ (hold Q .mk)):=by
 refine F.f50.partial_correctness a b
  _
  ?_
 ·intro _f_f50 ih_f50 i o hF
  intro c hc Q hq
  obtain rfl:c=_:=navEq hc rfl
  refine ALoopU.know fun hk hs=> ?_
  have b0:=hk 0
  simp -dsimp at b0
  have b1:=hk 1
  simp -dsimp at b1
  clear hk hs
  refine ALoopU.enter ?_
  repeat first|refine cg ?_|simp -dsimp
  revert hF;refine abr.sp ?_ ?_<;>intro h4 q5 hF
  ·have z6:((i:Int)<(a.length:Int)):=auz
   repeat first|refine cg ?_|simp -dsimp[h4,z6]
   refine ADraw.simple follows (by kernel_rfl) (by kernel_rfl) ?_
   have hF:=ob hF;obtain⟨x,e7,hF⟩:=hF
   have le7:=lt_of_get e7
   have hF:=ob hF;obtain⟨x8,e9,hF⟩:=hF
   have le9:=lt_of_get e9
   repeat first|refine cg ?_|simp -dsimp[h4,z6,↓e7,↓e9]
   have hF:=ob hF;obtain⟨v,e10,hF⟩:=hF
   refine((C.f49 B hB1 hB2 x x8 v e10)).pgoW (by first|simp[h4,z6,↓e7,↓e9];done|simp_all) (by simp) ?_
   repeat first|refine cg ?_|simp -dsimp[h4,z6,↓e7,↓e9]
   revert hF;refine abr.ns (fun h11 q12 hF=> ?_) (fun h11 q12 hF=> ?_)
   ·cases hF
    repeat first|refine cg ?_|simp -dsimp[h4,z6,↓e7,↓e9,h11,q12]
    refine Leave.go _ (Gh.refl _) (hq _ ?_)
    repeat first|refine cg ?_|simp -dsimp[h4,z6,↓e7,↓e9,h11,q12]
   ·have w13:IntKind.i64.wrap ((i:Int)+1)=(i:Int)+1:=wrap_in (by omega) (by omega)
    repeat first|refine cg ?_|simp -dsimp[h4,z6,↓e7,↓e9,h11,q12,w13]
    refine Again.go _ ?_ ((ih_f50 (i+1) o hF) _ rfl _ hq)
    exact(Gh.to3 (by simp) (by first|simp -dsimp[h4,z6,↓e7,↓e9,h11,q12,w13];done|simp_all))
  ·have z6:¬((i:Int)<(a.length:Int)):=auz
   cases hF
   repeat first|refine cg ?_|simp -dsimp[h4,q5,z6]
   refine Leave.go _ (Gh.to3 (by simp) (by first|simp -dsimp[h4,q5,z6];done|simp_all)) hq
theorem C.f51 (a:List PathBind)(b:List PathBind)(r:Bool)(hF:F.f51 a b=some r):PureCall Tryd.prog B 39 [.arr (List.map PathBind.c a),.arr (List.map PathBind.c b)] (.lit (.bool r)):=by
 unfold F.f51 at hF
 refine PureCall.enterLe Tryd.func39 (by kernel_rfl) rfl Tryd.ntmps39 (by simp) (by simp) ?_
 repeat first|refine cg ?_|simp -dsimp
 revert hF;refine abr.ns ?_ ?_<;>intro h1 q2 hF
 ·have z3:¬((a.length:Int)=(b.length:Int)):=auz
  cases hF
  repeat first|refine cg ?_|simp -dsimp[h1,q2,z3]
  all_goals(try first|omega|rfl)
 ·have z3:((a.length:Int)=(b.length:Int)):=auz
  repeat first|refine cg ?_|simp -dsimp[h1,q2,z3]
  have hF:=ob hF;obtain⟨o',ho14,hF⟩:=hF
  refine ALoop.goU _ ?_ (((CC.f50 B hB1 hB2 a b) 0 o' ho14) _ rfl _ ?_)
  ·exact(Gh.to3 (by simp) (by first|simp -dsimp[h1,q2,z3];done|simp_all))
  rcases o' with r0|sx
  ·dsimp only at hF
   cases hF
   intro st h
   simpa using h
  ·dsimp only at hF
   cases hF
   repeat first|refine cg ?_|simp -dsimp
   all_goals(try first|omega|rfl)
theorem C.f52 (a:Vl.Edge)(b:Vl.Edge)(r:Bool)(hF:F.f52 a b=some r):PureCall Tryd.prog B 54 [.agg [.lit (.int .i64 a.ctor),.lit (.int .i64 a.n),.lit (.int .i64 a.m),.lit (.int .i64 a.to)],.agg [.lit (.int .i64 b.ctor),.lit (.int .i64 b.n),.lit (.int .i64 b.m),.lit (.int .i64 b.to)]] (.lit (.bool r)):=by
 unfold F.f52 at hF
 refine PureCall.enterLe Tryd.func54 (by kernel_rfl) rfl Tryd.ntmps54 (by simp) (by simp) ?_
 repeat first|refine cg ?_|simp -dsimp
 revert hF;refine abr.ns ?_ ?_<;>intro h1 q2 hF
 ·cases hF
  repeat first|refine cg ?_|simp -dsimp[h1,q2]
  all_goals(try first|omega|rfl)
 ·repeat first|refine cg ?_|simp -dsimp[h1,q2]
  revert hF;refine abr.ns ?_ ?_<;>intro h3 q4 hF
  ·cases hF
   repeat first|refine cg ?_|simp -dsimp[h1,q2,h3,q4]
   all_goals(try first|omega|rfl)
  ·repeat first|refine cg ?_|simp -dsimp[h1,q2,h3,q4]
   revert hF;refine abr.ns ?_ ?_<;>intro h5 q6 hF
   ·cases hF
    repeat first|refine cg ?_|simp -dsimp[h1,q2,h3,q4,h5,q6]
    all_goals(try first|omega|rfl)
   ·repeat first|refine cg ?_|simp -dsimp[h1,q2,h3,q4,h5,q6]
    revert hF;refine abr.ns ?_ ?_<;>intro h7 q8 hF
    ·cases hF
     repeat first|refine cg ?_|simp -dsimp[h1,q2,h3,q4,h5,q6,h7,q8]
     all_goals(try first|omega|rfl)
    ·cases hF
     repeat first|refine cg ?_|simp -dsimp[h1,q2,h3,q4,h5,q6,h7,q8]
     all_goals(try first|omega|rfl)
theorem CC.f53 (a:List Vl.Edge)(b:List Vl.Edge):(∀(i:Nat) (o:Lo Bool Unit),F.f53 a b i=some o→∀(c:Code),navO [1,1,0,1,0,0] (bodyOf Tryd.f46)=some c→∀(Q:Exit→ASt→Prop),o.post (fun r=>∀st,Post Tryd.prog Tryd.f46 (fun r' _=>r'.le (.lit (.bool r))) .ret st→Q .ret st) (fun s=>Q (.exit 0) ⟨[],[]⟩)→ALoopU Tryd.prog B 0 27 (hold c .mk) ⟨[(0,.arr (List.map Vl.Edge.c a)),(1,.arr (List.map Vl.Edge.c b)),(5,.lit (.int .i64 (i:Int)))],[]⟩ (hold Q .mk)):=by
 refine F.f53.partial_correctness a b
  _
  ?_
 ·intro _f_f53 ih_f53 i o hF
  intro c hc Q hq
  obtain rfl:c=_:=navEq hc rfl
  refine ALoopU.know fun hk hs=> ?_
  have b0:=hk 0
  simp -dsimp at b0
  have b1:=hk 1
  simp -dsimp at b1
  clear hk hs
  refine ALoopU.enter ?_
  repeat first|refine cg ?_|simp -dsimp
  revert hF;refine abr.sp ?_ ?_<;>intro h4 q5 hF
  ·have z6:((i:Int)<(a.length:Int)):=auz
   repeat first|refine cg ?_|simp -dsimp[h4,z6]
   refine ADraw.simple follows (by kernel_rfl) (by kernel_rfl) ?_
   have hF:=ob hF;obtain⟨x,e7,hF⟩:=hF
   have le7:=lt_of_get e7
   have hF:=ob hF;obtain⟨x8,e9,hF⟩:=hF
   have le9:=lt_of_get e9
   repeat first|refine cg ?_|simp -dsimp[h4,z6,↓e7,↓e9]
   have hF:=ob hF;obtain⟨v,e10,hF⟩:=hF
   refine((C.f52 B hB1 hB2 x x8 v e10)).pgoW (by first|simp[h4,z6,↓e7,↓e9];done|simp_all) (by simp) ?_
   repeat first|refine cg ?_|simp -dsimp[h4,z6,↓e7,↓e9]
   revert hF;refine abr.ns (fun h11 q12 hF=> ?_) (fun h11 q12 hF=> ?_)
   ·cases hF
    repeat first|refine cg ?_|simp -dsimp[h4,z6,↓e7,↓e9,h11,q12]
    refine Leave.go _ (Gh.refl _) (hq _ ?_)
    repeat first|refine cg ?_|simp -dsimp[h4,z6,↓e7,↓e9,h11,q12]
   ·have w13:IntKind.i64.wrap ((i:Int)+1)=(i:Int)+1:=wrap_in (by omega) (by omega)
    repeat first|refine cg ?_|simp -dsimp[h4,z6,↓e7,↓e9,h11,q12,w13]
    refine Again.go _ ?_ ((ih_f53 (i+1) o hF) _ rfl _ hq)
    exact(Gh.to3 (by simp) (by first|simp -dsimp[h4,z6,↓e7,↓e9,h11,q12,w13];done|simp_all))
  ·have z6:¬((i:Int)<(a.length:Int)):=auz
   cases hF
   repeat first|refine cg ?_|simp -dsimp[h4,q5,z6]
   refine Leave.go _ (Gh.to3 (by simp) (by first|simp -dsimp[h4,q5,z6];done|simp_all)) hq
theorem C.f54 (a:List Vl.Edge)(b:List Vl.Edge)(r:Bool)(hF:F.f54 a b=some r):PureCall Tryd.prog B 46 [.arr (List.map Vl.Edge.c a),.arr (List.map Vl.Edge.c b)] (.lit (.bool r)):=by
 unfold F.f54 at hF
 refine PureCall.enterLe Tryd.func46 (by kernel_rfl) rfl Tryd.ntmps46 (by simp) (by simp) ?_
 repeat first|refine cg ?_|simp -dsimp
 revert hF;refine abr.ns ?_ ?_<;>intro h1 q2 hF
 ·have z3:¬((a.length:Int)=(b.length:Int)):=auz
  cases hF
  repeat first|refine cg ?_|simp -dsimp[h1,q2,z3]
  all_goals(try first|omega|rfl)
 ·have z3:((a.length:Int)=(b.length:Int)):=auz
  repeat first|refine cg ?_|simp -dsimp[h1,q2,z3]
  have hF:=ob hF;obtain⟨o',ho14,hF⟩:=hF
  refine ALoop.goU _ ?_ (((CC.f53 B hB1 hB2 a b) 0 o' ho14) _ rfl _ ?_)
  ·exact(Gh.to3 (by simp) (by first|simp -dsimp[h1,q2,z3];done|simp_all))
  rcases o' with r0|sx
  ·dsimp only at hF
   cases hF
   intro st h
   simpa using h
  ·dsimp only at hF
   cases hF
   repeat first|refine cg ?_|simp -dsimp
   all_goals(try first|omega|rfl)
theorem C.f55 (a:Vl.Node)(b:Vl.Node)(r:Bool)(hF:F.f55 a b=some r):PureCall Tryd.prog B 29 [.agg [.lit (.int .i64 a.op),.lit (.int .i64 a.clause),.arr (List.map PathBind.c a.binds),.arr (List.map cI a.path),.arr (List.map Vl.Edge.c a.edges),.lit (.int .i64 a.els)],.agg [.lit (.int .i64 b.op),.lit (.int .i64 b.clause),.arr (List.map PathBind.c b.binds),.arr (List.map cI b.path),.arr (List.map Vl.Edge.c b.edges),.lit (.int .i64 b.els)]] (.lit (.bool r)):=by
 unfold F.f55 at hF
 refine PureCall.enterLe Tryd.func29 (by kernel_rfl) rfl Tryd.ntmps29 (by simp) (by simp) ?_
 repeat first|refine cg ?_|simp -dsimp
 revert hF;refine abr.ns ?_ ?_<;>intro h1 q2 hF
 ·cases hF
  repeat first|refine cg ?_|simp -dsimp[h1,q2]
  all_goals(try first|omega|rfl)
 ·repeat first|refine cg ?_|simp -dsimp[h1,q2]
  revert hF;refine abr.ns ?_ ?_<;>intro h3 q4 hF
  ·cases hF
   repeat first|refine cg ?_|simp -dsimp[h1,q2,h3,q4]
   all_goals(try first|omega|rfl)
  ·repeat first|refine cg ?_|simp -dsimp[h1,q2,h3,q4]
   have hF:=ob hF;obtain⟨v,e5,hF⟩:=hF
   refine((C.f51 B hB1 hB2 a.binds b.binds v e5)).goW (by first|simp[h1,q2,h3,q4];done|simp_all) (by simp) ?_
   repeat first|refine cg ?_|simp -dsimp[h1,q2,h3,q4]
   revert hF;refine abr.ns (fun h6 q7 hF=> ?_) (fun h6 q7 hF=> ?_)
   ·cases hF
    repeat first|refine cg ?_|simp -dsimp[h1,q2,h3,q4,h6,q7]
    all_goals(try first|omega|rfl)
   ·repeat first|refine cg ?_|simp -dsimp[h1,q2,h3,q4,h6,q7]
    have hF:=ob hF;obtain⟨v8,e9,hF⟩:=hF
    refine((C.f48 B hB1 hB2 a.path b.path v8 e9)).goW (by first|simp[h1,q2,h3,q4,h6,q7];done|simp_all) (by simp) ?_
    repeat first|refine cg ?_|simp -dsimp[h1,q2,h3,q4,h6,q7]
    revert hF;refine abr.ns (fun h10 q11 hF=> ?_) (fun h10 q11 hF=> ?_)
    ·cases hF
     repeat first|refine cg ?_|simp -dsimp[h1,q2,h3,q4,h6,q7,h10,q11]
     all_goals(try first|omega|rfl)
    ·repeat first|refine cg ?_|simp -dsimp[h1,q2,h3,q4,h6,q7,h10,q11]
     have hF:=ob hF;obtain⟨v12,e13,hF⟩:=hF
     refine((C.f54 B hB1 hB2 a.edges b.edges v12 e13)).goW (by first|simp[h1,q2,h3,q4,h6,q7,h10,q11];done|simp_all) (by simp) ?_
     repeat first|refine cg ?_|simp -dsimp[h1,q2,h3,q4,h6,q7,h10,q11]
     revert hF;refine abr.ns (fun h14 q15 hF=> ?_) (fun h14 q15 hF=> ?_)
     ·cases hF
      repeat first|refine cg ?_|simp -dsimp[h1,q2,h3,q4,h6,q7,h10,q11,h14,q15]
      all_goals(try first|omega|rfl)
     ·repeat first|refine cg ?_|simp -dsimp[h1,q2,h3,q4,h6,q7,h10,q11,h14,q15]
      revert hF;refine abr.ns ?_ ?_<;>intro h16 q17 hF
      ·cases hF
       repeat first|refine cg ?_|simp -dsimp[h1,q2,h3,q4,h6,q7,h10,q11,h14,q15,h16,q17]
       all_goals(try first|omega|rfl)
      ·cases hF
       repeat first|refine cg ?_|simp -dsimp[h1,q2,h3,q4,h6,q7,h10,q11,h14,q15,h16,q17]
       all_goals(try first|omega|rfl)
theorem CC.f56 (a:List Vl.Node)(b:List Vl.Node):(∀(i:Nat) (o:Lo Bool Unit),F.f56 a b i=some o→∀(c:Code),navO [1,1,0,1,0,0] (bodyOf Tryd.f14)=some c→∀(Q:Exit→ASt→Prop),o.post (fun r=>∀st,Post Tryd.prog Tryd.f14 (fun r' _=>r'.le (.lit (.bool r))) .ret st→Q .ret st) (fun s=>Q (.exit 0) ⟨[],[]⟩)→ALoopU Tryd.prog B 0 27 (hold c .mk) ⟨[(0,.arr (List.map Vl.Node.c a)),(1,.arr (List.map Vl.Node.c b)),(5,.lit (.int .i64 (i:Int)))],[]⟩ (hold Q .mk)):=by
 refine F.f56.partial_correctness a b
  _
  ?_
 ·intro _f_f56 ih_f56 i o hF
  intro c hc Q hq
  obtain rfl:c=_:=navEq hc rfl
  refine ALoopU.know fun hk hs=> ?_
  have b0:=hk 0
  simp -dsimp at b0
  have b1:=hk 1
  simp -dsimp at b1
  clear hk hs
  refine ALoopU.enter ?_
  repeat first|refine cg ?_|simp -dsimp
  revert hF;refine abr.sp ?_ ?_<;>intro h4 q5 hF
  ·have z6:((i:Int)<(a.length:Int)):=auz
   repeat first|refine cg ?_|simp -dsimp[h4,z6]
   refine ADraw.simple follows (by kernel_rfl) (by kernel_rfl) ?_
   have hF:=ob hF;obtain⟨x,e7,hF⟩:=hF
   have le7:=lt_of_get e7
   have hF:=ob hF;obtain⟨x8,e9,hF⟩:=hF
   have le9:=lt_of_get e9
   repeat first|refine cg ?_|simp -dsimp[h4,z6,↓e7,↓e9]
   have hF:=ob hF;obtain⟨v,e10,hF⟩:=hF
   refine((C.f55 B hB1 hB2 x x8 v e10)).pgoW (by first|simp[h4,z6,↓e7,↓e9];done|simp_all) (by simp) ?_
   repeat first|refine cg ?_|simp -dsimp[h4,z6,↓e7,↓e9]
   revert hF;refine abr.ns (fun h11 q12 hF=> ?_) (fun h11 q12 hF=> ?_)
   ·cases hF
    repeat first|refine cg ?_|simp -dsimp[h4,z6,↓e7,↓e9,h11,q12]
    refine Leave.go _ (Gh.refl _) (hq _ ?_)
    repeat first|refine cg ?_|simp -dsimp[h4,z6,↓e7,↓e9,h11,q12]
   ·have w13:IntKind.i64.wrap ((i:Int)+1)=(i:Int)+1:=wrap_in (by omega) (by omega)
    repeat first|refine cg ?_|simp -dsimp[h4,z6,↓e7,↓e9,h11,q12,w13]
    refine Again.go _ ?_ ((ih_f56 (i+1) o hF) _ rfl _ hq)
    exact(Gh.to3 (by simp) (by first|simp -dsimp[h4,z6,↓e7,↓e9,h11,q12,w13];done|simp_all))
  ·have z6:¬((i:Int)<(a.length:Int)):=auz
   cases hF
   repeat first|refine cg ?_|simp -dsimp[h4,q5,z6]
   refine Leave.go _ (Gh.to3 (by simp) (by first|simp -dsimp[h4,q5,z6];done|simp_all)) hq
theorem C.f57 (a:List Vl.Node)(b:List Vl.Node)(r:Bool)(hF:F.f57 a b=some r):PureCall Tryd.prog B 14 [.arr (List.map Vl.Node.c a),.arr (List.map Vl.Node.c b)] (.lit (.bool r)):=by
 unfold F.f57 at hF
 refine PureCall.enterLe Tryd.func14 (by kernel_rfl) rfl Tryd.ntmps14 (by simp) (by simp) ?_
 repeat first|refine cg ?_|simp -dsimp
 revert hF;refine abr.ns ?_ ?_<;>intro h1 q2 hF
 ·have z3:¬((a.length:Int)=(b.length:Int)):=auz
  cases hF
  repeat first|refine cg ?_|simp -dsimp[h1,q2,z3]
  all_goals(try first|omega|rfl)
 ·have z3:((a.length:Int)=(b.length:Int)):=auz
  repeat first|refine cg ?_|simp -dsimp[h1,q2,z3]
  have hF:=ob hF;obtain⟨o',ho14,hF⟩:=hF
  refine ALoop.goU _ ?_ (((CC.f56 B hB1 hB2 a b) 0 o' ho14) _ rfl _ ?_)
  ·exact(Gh.to3 (by simp) (by first|simp -dsimp[h1,q2,z3];done|simp_all))
  rcases o' with r0|sx
  ·dsimp only at hF
   cases hF
   intro st h
   simpa using h
  ·dsimp only at hF
   cases hF
   repeat first|refine cg ?_|simp -dsimp
   all_goals(try first|omega|rfl)
theorem C.f58 (aList:List Vl.Node)(r:Bool)(hF:F.f58 aList=some r):PureCall Tryd.prog B 4 [.arr (List.map Vl.Node.c aList)] (.lit (.bool r)):=by
 unfold F.f58 at hF
 refine PureCall.enterLe Tryd.func4 (by kernel_rfl) rfl Tryd.ntmps4 (by simp) (by simp) ?_
 repeat first|refine cg ?_|simp -dsimp
 have hF:=ob hF;obtain⟨v,e1,hF⟩:=hF
 refine((C.f7 B hB1 hB2 aList 1048576 v e1)).goW (by simp) (by simp) ?_
 repeat first|refine cg ?_|simp -dsimp
 revert hF;refine abr.sp ?_ ?_<;>intro h2 q3 hF
 ·cases hF
  repeat first|refine cg ?_|simp -dsimp[h2]
  all_goals(try first|omega|rfl)
 ·repeat first|refine cg ?_|simp -dsimp[h2,q3]
  have hF:=ob hF;obtain⟨v4,e5,hF⟩:=hF
  refine((C.f18 B hB1 hB2 aList v4 e5)).goW (by first|simp[h2,q3];done|simp_all) (by simp) ?_
  repeat first|refine cg ?_|simp -dsimp[h2,q3]
  have hF:=ob hF;obtain⟨v6,e7,hF⟩:=hF
  refine((C.f32 B hB1 hB2 v4 v6 e7)).goW (by first|simp[h2,q3];done|simp_all) (by simp) ?_
  repeat first|refine cg ?_|simp -dsimp[h2,q3]
  have hF:=ob hF;obtain⟨v8,e9,hF⟩:=hF
  refine((C.f18 B hB1 hB2 aList v8 e9)).goW (by first|simp[h2,q3];done|simp_all) (by simp) ?_
  repeat first|refine cg ?_|simp -dsimp[h2,q3]
  have hF:=ob hF;obtain⟨v10,e11,hF⟩:=hF
  refine((C.f46 B hB1 hB2 v8 v10 e11)).goW (by first|simp[h2,q3];done|simp_all) (by simp) ?_
  repeat first|refine cg ?_|simp -dsimp[h2,q3]
  revert hF;refine abr.ns ?_ ?_<;>intro h12 q13 hF
  ·cases hF
   repeat first|refine cg ?_|simp -dsimp[h2,q3,h12,q13]
   all_goals(try first|omega|rfl)
  ·repeat first|refine cg ?_|simp -dsimp[h2,q3,h12,q13]
   have hF:=ob hF;obtain⟨v14,e15,hF⟩:=hF
   refine((C.f18 B hB1 hB2 aList v14 e15)).goW (by first|simp[h2,q3,h12,q13];done|simp_all) (by simp) ?_
   repeat first|refine cg ?_|simp -dsimp[h2,q3,h12,q13]
   have hF:=ob hF;obtain⟨v16,e17,hF⟩:=hF
   refine((C.f57 B hB1 hB2 v8 v14 v16 e17)).goW (by first|simp[h2,q3,h12,q13];done|simp_all) (by simp) ?_
   repeat first|refine cg ?_|simp -dsimp[h2,q3,h12,q13]
   revert hF;refine abr.ns (fun h18 q19 hF=> ?_) (fun h18 q19 hF=> ?_)
   ·cases hF
    repeat first|refine cg ?_|simp -dsimp[h2,q3,h12,q13,h18,q19]
    all_goals(try first|omega|rfl)
   ·cases hF
    repeat first|refine cg ?_|simp -dsimp[h2,q3,h12,q13,h18,q19]
    all_goals(try first|omega|rfl)
end Go.Proofs.YtnbcpgpmeeminaaDoor
