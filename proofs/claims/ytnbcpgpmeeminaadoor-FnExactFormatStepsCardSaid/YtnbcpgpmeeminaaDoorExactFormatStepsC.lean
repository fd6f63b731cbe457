/- The contracts: the code computes the functions (printed by gen.py). -/
import Derived.Test.YtnbcpgpmeeminaaDoorProg
import Derived.Test.YtnbcpgpmeeminaaDoorExactFormatStepsF
import Derived.Test.YtnbcpgpmeeminaaDoorVlBld
import Derived.Test.YtnbcpgpmeeminaaDoorShelf
namespace Go.Proofs.YtnbcpgpmeeminaaDoor
open Go Go.Proofs Go.Vl
set_option linter.all false
set_option maxRecDepth 100000
set_option maxHeartbeats 4000000
set_option synthInstance.maxSize 100000
set_option synthInstance.maxHeartbeats 4000000
attribute [local irreducible] ECallA aL AMake MLoop AgainM LeaveM awpM aopsM MutCall BCall chk abr ACall ALoop ALoopU ADraw Again Leave PCallA PCall Post awp aops PureCall hold
theorem follows :Tryd.prog.follows .mixedOrders=true:=by kernel_rfl
@[simp] theorem ti2 :tiOf Tryd.prog 2=some ⟨.word,1,[.int .i64 0]⟩:=by kernel_rfl
@[simp] theorem ti3 :tiOf Tryd.prog 3=some ⟨.word,1,[.int .i64 0]⟩:=by kernel_rfl
@[simp] theorem ti4 :tiOf Tryd.prog 4=some ⟨.word,1,[.bool false]⟩:=by kernel_rfl
@[simp] theorem ti5 :tiOf Tryd.prog 5=some ⟨.word,1,[.int .u8 0]⟩:=by kernel_rfl
@[simp] theorem ti6 :tiOf Tryd.prog 6=some ⟨.word,1,[.int .u8 0]⟩:=by kernel_rfl
@[simp] theorem ti7 :tiOf Tryd.prog 7=some ⟨.struct [(0,1),(1,1),(2,1),(3,1)],4,[.int .i64 0,.int .i64 0,.bool false,.int .u8 0]⟩:=by kernel_rfl
@[simp] theorem ti9 :tiOf Tryd.prog 9=some ⟨.word,1,[.string ByteArray.empty]⟩:=by kernel_rfl
@[simp] theorem ti22 :tiOf Tryd.prog 22=some ⟨.slice 8 96 [.int .i64 0,.slice none 0 0,.int .i64 0,.int .i64 0,.int .i64 0,.int .i64 0,.slice none 0 0,.int .i64 0],1,[.slice none 0 0]⟩:=by kernel_rfl
@[simp] theorem sl22 :isSl Tryd.prog 22=true:=by kernel_rfl
@[simp] theorem ti25 :tiOf Tryd.prog 25=some ⟨.slice 8 96 [.int .i64 0,.slice none 0 0,.int .i64 0,.int .i64 0,.int .i64 0,.int .i64 0,.slice none 0 0,.int .i64 0],1,[.slice none 0 0]⟩:=by kernel_rfl
@[simp] theorem sl25 :isSl Tryd.prog 25=true:=by kernel_rfl
@[simp] theorem ti37 :tiOf Tryd.prog 37=some ⟨.slice 1 8 [.int .i64 0],1,[.slice none 0 0]⟩:=by kernel_rfl
@[simp] theorem sl37 :isSl Tryd.prog 37=true:=by kernel_rfl
@[simp] theorem ti38 :tiOf Tryd.prog 38=some ⟨.slice 2 32 [.int .i64 0,.slice none 0 0],1,[.slice none 0 0]⟩:=by kernel_rfl
@[simp] theorem sl38 :isSl Tryd.prog 38=true:=by kernel_rfl
@[simp] theorem ti40 :tiOf Tryd.prog 40=some ⟨.struct [(0,1),(1,1),(2,1),(3,1),(4,1),(5,1),(6,1),(7,1)],8,[.int .i64 0,.slice none 0 0,.int .i64 0,.int .i64 0,.int .i64 0,.int .i64 0,.slice none 0 0,.int .i64 0]⟩:=by kernel_rfl
@[simp] theorem ti42 :tiOf Tryd.prog 42=some ⟨.slice 2 32 [.int .i64 0,.slice none 0 0],1,[.slice none 0 0]⟩:=by kernel_rfl
@[simp] theorem sl42 :isSl Tryd.prog 42=true:=by kernel_rfl
@[simp] theorem ti44 :tiOf Tryd.prog 44=some ⟨.struct [(0,1),(1,1),(2,1),(3,1),(4,1),(5,1),(6,1),(7,1)],8,[.int .i64 0,.slice none 0 0,.int .i64 0,.int .i64 0,.int .i64 0,.int .i64 0,.slice none 0 0,.int .i64 0]⟩:=by kernel_rfl
@[simp] theorem ti47 :tiOf Tryd.prog 47=some ⟨.slice 1 1 [.int .u8 0],1,[.slice none 0 0]⟩:=by kernel_rfl
@[simp] theorem sl47 :isSl Tryd.prog 47=true:=by kernel_rfl
@[simp] theorem ti49 :tiOf Tryd.prog 49=some ⟨.struct [(0,1),(1,1)],2,[.pointer none,.slice none 0 0]⟩:=by kernel_rfl
@[simp] theorem ti57 :tiOf Tryd.prog 57=some ⟨.struct [(0,1),(1,1)],2,[.int .i64 0,.slice none 0 0]⟩:=by kernel_rfl
@[simp] theorem ti88 :tiOf Tryd.prog 88=some ⟨.struct [(0,1),(1,1)],2,[.int .i64 0,.slice none 0 0]⟩:=by kernel_rfl
attribute [simp] Tryd.underlying2 Tryd.underlying3 Tryd.underlying4 Tryd.underlying5 Tryd.underlying6 Tryd.underlying9 Tryd.underlying22 Tryd.underlying25 Tryd.underlying37 Tryd.underlying38 Tryd.underlying42 Tryd.underlying47 Tryd.results3 Tryd.results5 Tryd.results6 Tryd.results7 Tryd.results8 Tryd.results9 Tryd.results15 Tryd.results16 Tryd.results17 Tryd.results18 Tryd.results20 Tryd.results22 Tryd.results25 Tryd.results30 Tryd.results31 Tryd.results32 Tryd.results33 Tryd.results34 Tryd.results35 Tryd.results38 Tryd.results39 Tryd.results47 Tryd.results48 Tryd.results51
section
open Go.Shelf Go.RowKit Go.Lib Go.Sort
set_option maxHeartbeats 2000000 in
set_option maxRecDepth 100000 in
theorem Tryd.bld_used (b:Nat)(w:World)(h0:w.cell? ⟨b,0,none⟩=some (.pointer (some ⟨b,0,none⟩))):
  Calls Tryd.prog 37 #[.pointer (some ⟨b,0,none⟩)] w fun e w'=>e=.returned (.tuple #[])∧w'=w:=by
 obtain⟨j,hj,_⟩:=Option.map_eq_some_iff.1 Tryd.Builder_Extra_169.sizeBuilder
 have mixed:=Tryd.lays169.mixed
 have t49:=Tryd.underlying49;have a49:=Tryd.isAgg49;have z49:=Tryd.sizeOf49;have v49:=Tryd.zeroValue49;have u49:=run_underlying Tryd.underlying49
 have t46:=Tryd.underlying46;have a46:=Tryd.isAgg46;have z46:=Tryd.sizeOf46;have v46:=Tryd.zeroValue46;have u46:=run_underlying Tryd.underlying46
 have t9:=Tryd.underlying9;have a9:=Tryd.isAgg9;have z9:=Tryd.sizeOf9;have v9:=Tryd.zeroValue9;have u9:=run_underlying Tryd.underlying9
 have t4:=Tryd.underlying4;have a4:=Tryd.isAgg4;have z4:=Tryd.sizeOf4;have v4:=Tryd.zeroValue4;have u4:=run_underlying Tryd.underlying4
 have t91:=Tryd.underlying91;have a91:=Tryd.isAgg91;have z91:=Tryd.sizeOf91;have v91:=Tryd.zeroValue91;have u91:=run_underlying Tryd.underlying91
 go_enter Tryd.func37,Tryd.ntmps37
 go_wp2
 rw[Lib.run_neq_ptr_same w _ Tryd.underlying46 hj]
 go_wp2
 go_end0
 exact⟨rfl,rfl⟩
set_option maxHeartbeats 2000000 in
set_option maxRecDepth 100000 in
theorem Tryd.bld_fresh (b:Nat)(w:World)(h0:w.cell? ⟨b,0,none⟩=some (.pointer none))(hsh:w.shape? b=some (49,2))(hfz:w.frozen? ⟨b,0,none⟩=false):
  Calls Tryd.prog 37 #[.pointer (some ⟨b,0,none⟩)] w fun e w'=>e=.returned (.tuple #[])∧w'=w.setCell ⟨b,0,none⟩ (.pointer (some ⟨b,0,none⟩)):=by
 obtain⟨j,hj,hjs⟩:=Option.map_eq_some_iff.1 Tryd.Builder_Extra_169.sizeBuilder
 have mixed:=Tryd.lays169.mixed
 have t49:=Tryd.underlying49;have a49:=Tryd.isAgg49;have z49:=Tryd.sizeOf49;have v49:=Tryd.zeroValue49;have u49:=run_underlying Tryd.underlying49
 have t46:=Tryd.underlying46;have a46:=Tryd.isAgg46;have z46:=Tryd.sizeOf46;have v46:=Tryd.zeroValue46;have u46:=run_underlying Tryd.underlying46
 have t9:=Tryd.underlying9;have a9:=Tryd.isAgg9;have z9:=Tryd.sizeOf9;have v9:=Tryd.zeroValue9;have u9:=run_underlying Tryd.underlying9
 have t4:=Tryd.underlying4;have a4:=Tryd.isAgg4;have z4:=Tryd.sizeOf4;have v4:=Tryd.zeroValue4;have u4:=run_underlying Tryd.underlying4
 have t91:=Tryd.underlying91;have a91:=Tryd.isAgg91;have z91:=Tryd.sizeOf91;have v91:=Tryd.zeroValue91;have u91:=run_underlying Tryd.underlying91
 go_enter Tryd.func37,Tryd.ntmps37
 go_wp2
 rw[Lib.run_to_unsafe w ⟨b,0,none⟩ Tryd.underlying46 Tryd.underlying91 hj (by rw[hjs];decide) hsh (Nat.zero_lt_succ 1)]
 simp only[Result.andThen]
 rw[Oper.upon_value]
 go_wp2
 rw[run_callFunc_extern Tryd.func50 (by kernel_rfl) (by kernel_rfl) (by kernel_rfl) (e:=Extern.AbiNoEscape.same) (by kernel_rfl)]
 rw[Lib.run_noEscape]
 simp only[Result.andThen]
 rw[Oper.upon_value]
 go_wp2
 rw[Lib.run_from_unsafe w ⟨b,0,none⟩ Tryd.underlying91 Tryd.underlying46 hj hsh Tryd.Builder_Extra_169.liesBuilder]
 simp only[Result.andThen]
 rw[Oper.upon_value]
 go_wp2
 go_end0
 exact⟨rfl,rfl⟩
theorem Tryd.bld_copyCheck {b:Nat}{p v:Value}{w:World}(hb:w.heap[b]? =some (.cells #[p,v] 49 (0,0)))(hp:p=.pointer none∨p=.pointer (some ⟨b,0,none⟩)):
  Calls Tryd.prog 37 #[.pointer (some ⟨b,0,none⟩)] w fun e w'=>e=.returned (.tuple #[])∧w'.heap[b]? =some (.cells #[.pointer (some ⟨b,0,none⟩),v] 49 (0,0))∧Else b w w':=by
 have c0:w.cell? ⟨b,0,none⟩=some p:=by rw[Lib.cell_of_heap hb];rfl
 rcases hp with rfl|rfl
 ·refine(Tryd.bld_fresh b w c0 (by simp[World.shape?,hb]) (by simp[World.frozen?,hb])).mono ?_
  rintro e w' ⟨rfl,rfl⟩
  exact⟨rfl,by simp[World.setCell,Array.getElem?_modify,hb],Else.set b 0 _ w⟩
 ·refine(Tryd.bld_used b w c0).mono ?_
  rintro e w' ⟨rfl,rfl⟩
  exact⟨rfl,hb,rfl,rfl,rfl,rfl,fun _ _=>rfl⟩
set_option maxHeartbeats 2000000 in
set_option maxRecDepth 100000 in
theorem Tryd.bldW :BldW Tryd.prog 49 5 19:=by
 intro b p v bs s w hb hp hv hne hlen
 obtain⟨i0,hi,hz0,hz1,hz2⟩:=info_parts Tryd.Builder_Extra_169.infoByte
 have mixed:=Tryd.lays169.mixed
 have t49:=Tryd.underlying49;have a49:=Tryd.isAgg49;have z49:=Tryd.sizeOf49;have v49:=Tryd.zeroValue49;have u49:=run_underlying Tryd.underlying49
 have t46:=Tryd.underlying46;have a46:=Tryd.isAgg46;have z46:=Tryd.sizeOf46;have v46:=Tryd.zeroValue46;have u46:=run_underlying Tryd.underlying46
 have t47:=Tryd.underlying47;have a47:=Tryd.isAgg47;have z47:=Tryd.sizeOf47;have v47:=Tryd.zeroValue47;have u47:=run_underlying Tryd.underlying47
 have t3:=Tryd.underlying3;have a3:=Tryd.isAgg3;have z3:=Tryd.sizeOf3;have v3:=Tryd.zeroValue3;have u3:=run_underlying Tryd.underlying3
 have t9:=Tryd.underlying9;have a9:=Tryd.isAgg9;have z9:=Tryd.sizeOf9;have v9:=Tryd.zeroValue9;have u9:=run_underlying Tryd.underlying9
 have t4:=Tryd.underlying4;have a4:=Tryd.isAgg4;have z4:=Tryd.sizeOf4;have v4:=Tryd.zeroValue4;have u4:=run_underlying Tryd.underlying4
 have t91:=Tryd.underlying91;have a91:=Tryd.isAgg91;have z91:=Tryd.sizeOf91;have v91:=Tryd.zeroValue91;have u91:=run_underlying Tryd.underlying91
 have t5:=Tryd.underlying5;have a5:=Tryd.isAgg5;have z5:=Tryd.sizeOf5;have v5:=Tryd.zeroValue5;have u5:=run_underlying Tryd.underlying5
 have eCC:∀args w,(callFunc 37 args).run Tryd.prog w=.ok (.enter 37 args) w:=enters_of Tryd.func37 (by kernel_rfl) rfl
 go_enter Tryd.func19,Tryd.ntmps19
 go_wp2_with (go_at_fn 37;refine(Tryd.bld_copyCheck hb hp).mono ?_)
 rintro e w0 ⟨rfl,hb0,he0⟩
 have c1:w0.cell? ⟨b,1,none⟩=some v:=by rw[Lib.cell_of_heap hb0];rfl
 have hv0:=hv.else he0 hne
 go_wp2_with (at_builtin;refine wpList_appStr rfl _ _ 47 9 rfl Tryd.underlying47 Tryd.underlying9 hi hz0 hz1 hz2 rfl s rfl hv0 hlen ?_)
 intro v' w1 hap
 have hlt:b<w0.heap.size:=(Array.getElem?_eq_some_iff.1 hb0).1
 have hb1:w1.heap[b]? =some (.cells #[.pointer (some ⟨b,0,none⟩),v] 49 (0,0)):=by rw[hap.others hne hlt];exact hb0
 have d0:w1.cell? ⟨b,0,none⟩=some (.pointer (some ⟨b,0,none⟩)):=by rw[Lib.cell_of_heap hb1];rfl
 have d1:w1.cell? ⟨b,1,none⟩=some v:=by rw[Lib.cell_of_heap hb1];rfl
 have f1:w1.frozen? ⟨b,1,none⟩=false:=Lib.frozen_of_heap hb1 1
 obtain⟨ao,n',cap,rfl⟩:=hap.form hv
 go_wp2
 go_ret2
 exact⟨rfl,_,w0,w1,he0,hb0,hap,rfl⟩
end
variable (B : Nat) (hB1 : 1073741824 ≤ bd B) (hB2 : bd B ≤ 9223372036854775807 ∧ tbOf B = some 0)
include hB1 hB2
theorem C.f0 (a:List Int)(left':Int)(r:Int)(hF:F.f0 a left'=some r):PureCall Tryd.prog B 30 [.arr (List.map cI a),.lit (.int .i64 left')] (.lit (.int .i64 r)):=by
 unfold F.f0 at hF
 refine PureCall.enterLe Tryd.func30 (by kernel_rfl) rfl Tryd.ntmps30 (by simp) (by simp) ?_
 repeat first|refine cg ?_|simp -dsimp
 revert hF;refine abr.sp ?_ ?_<;>intro h1 q2 hF
 ·cases hF
  repeat first|refine cg ?_|simp -dsimp[h1]
  all_goals(try first|omega|rfl)
 ·cases hF
  repeat first|refine cg ?_|simp -dsimp[h1,q2]
  all_goals(try first|omega|rfl)
theorem C.f1 (a:PathBind)(left':Int)(r:Int)(hF:F.f1 a left'=some r):PureCall Tryd.prog B 47 [.agg [.lit (.int .i64 a.var),.arr (List.map cI a.path)],.lit (.int .i64 left')] (.lit (.int .i64 r)):=by
 unfold F.f1 at hF
 refine PureCall.enterLe Tryd.func47 (by kernel_rfl) rfl Tryd.ntmps47 (by simp) (by simp) ?_
 repeat first|refine cg ?_|simp -dsimp
 have hF:=ob hF;obtain⟨v,e1,hF⟩:=hF
 refine((C.f0 B hB1 hB2 a.path left' v e1)).goW (by simp) (by simp) ?_
 repeat first|refine cg ?_|simp -dsimp
 revert hF;refine abr.sp ?_ ?_<;>intro h2 q3 hF
 ·cases hF
  repeat first|refine cg ?_|simp -dsimp[h2]
  all_goals(try first|omega|rfl)
 ·cases hF
  repeat first|refine cg ?_|simp -dsimp[h2,q3]
  all_goals(try first|omega|rfl)
theorem CC.f2 (a:List PathBind):(∀(left'3:Int) (i:Nat) (o:Lo Int Int),F.f2 a left'3 i=some o→∀(c:Code),navO [1,1,1,0,1,0,0] (bodyOf Tryd.f31)=some c→∀(Q:Exit→ASt→Prop),o.post (fun r=>∀st,Post Tryd.prog Tryd.f31 (fun r' _=>r'.le (.lit (.int .i64 r))) .ret st→Q .ret st) (fun s=>Q (.exit 0) ⟨[(1,.lit (.int .i64 s))],[]⟩)→ALoopU Tryd.prog B 0 27 (hold c .mk) ⟨[(0,.arr (List.map PathBind.c a)),(1,.lit (.int .i64 left'3)),(5,.lit (.int .i64 (i:Int)))],[]⟩ (hold Q .mk)):=by
 refine F.f2.partial_correctness a
  _
  ?_
 ·intro _f_f2 ih_f2 left'3 i o hF
  intro c hc Q hq
  obtain rfl:c=_:=navEq hc rfl
  refine ALoopU.know fun hk hs=> ?_
  have b0:=hk 0
  simp -dsimp at b0
  clear hk hs
  refine ALoopU.enter ?_
  repeat first|refine cg ?_|simp -dsimp
  revert hF;refine abr.sp ?_ ?_<;>intro h4 q5 hF
  ·have z6:((i:Int)<(a.length:Int)):=auz
   have hF:=ob hF;obtain⟨x,e7,hF⟩:=hF
   have le7:=lt_of_get e7
   repeat first|refine cg ?_|simp -dsimp[h4,z6,↓e7]
   have hF:=ob hF;obtain⟨v,e8,hF⟩:=hF
   refine((C.f1 B hB1 hB2 x left'3 v e8)).goW (by first|simp[h4,z6,↓e7];done|simp_all) (by simp) ?_
   repeat first|refine cg ?_|simp -dsimp[h4,z6,↓e7]
   revert hF;refine abr.sp ?_ ?_<;>intro h9 q10 hF
   ·cases hF
    repeat first|refine cg ?_|simp -dsimp[h4,z6,↓e7,h9]
    refine Leave.go _ (Gh.refl _) (hq _ ?_)
    repeat first|refine cg ?_|simp -dsimp[h4,z6,↓e7,h9]
   ·have w11:IntKind.i64.wrap ((i:Int)+1)=(i:Int)+1:=wrap_in (by omega) (by omega)
    repeat first|refine cg ?_|simp -dsimp[h4,z6,↓e7,h9,q10,w11]
    refine Again.go _ ?_ ((ih_f2 v (i+1) o hF) _ rfl _ hq)
    exact(Gh.to3 (by simp) (by first|simp -dsimp[h4,z6,↓e7,h9,q10,w11];done|simp_all))
  ·have z6:¬((i:Int)<(a.length:Int)):=auz
   cases hF
   repeat first|refine cg ?_|simp -dsimp[h4,q5,z6]
   refine Leave.go _ (Gh.to3 (by simp) (by first|simp -dsimp[h4,q5,z6];done|simp_all)) hq
theorem C.f3 (a:List PathBind)(left':Int)(r:Int)(hF:F.f3 a left'=some r):PureCall Tryd.prog B 31 [.arr (List.map PathBind.c a),.lit (.int .i64 left')] (.lit (.int .i64 r)):=by
 unfold F.f3 at hF
 refine PureCall.enterLe Tryd.func31 (by kernel_rfl) rfl Tryd.ntmps31 (by simp) (by simp) ?_
 repeat first|refine cg ?_|simp -dsimp
 revert hF;refine abr.sp ?_ ?_<;>intro h1 q2 hF
 ·cases hF
  repeat first|refine cg ?_|simp -dsimp[h1]
  all_goals(try first|omega|rfl)
 ·repeat first|refine cg ?_|simp -dsimp[h1,q2]
  have hF:=ob hF;obtain⟨o',ho12,hF⟩:=hF
  refine ALoop.goU _ ?_ (((CC.f2 B hB1 hB2 a) (IntKind.i64.wrap (left'- (a.length:Int))) 0 o' ho12) _ rfl _ ?_)
  ·exact(Gh.to3 (by simp) (by first|simp -dsimp[h1,q2];done|simp_all))
  rcases o' with r0|sx
  ·dsimp only at hF
   cases hF
   intro st h
   simpa using h
  ·dsimp only at hF
   cases hF
   repeat first|refine cg ?_|simp -dsimp
   all_goals(try first|omega|rfl)
theorem C.f4 (a:Step)(left':Int)(r:Int)(hF:F.f4 a left'=some r):PureCall Tryd.prog B 15 [.agg [.lit (.int .i64 a.op),.arr (List.map cI a.path),.lit (.int .i64 a.ctor),.lit (.int .i64 a.n),.lit (.int .i64 a.m),.lit (.int .i64 a.clause),.arr (List.map PathBind.c a.binds),.lit (.int .i64 a.to)],.lit (.int .i64 left')] (.lit (.int .i64 r)):=by
 unfold F.f4 at hF
 refine PureCall.enterLe Tryd.func15 (by kernel_rfl) rfl Tryd.ntmps15 (by simp) (by simp) ?_
 repeat first|refine cg ?_|simp -dsimp
 have hF:=ob hF;obtain⟨v,e1,hF⟩:=hF
 refine((C.f0 B hB1 hB2 a.path left' v e1)).goW (by simp) (by simp) ?_
 repeat first|refine cg ?_|simp -dsimp
 revert hF;refine abr.sp ?_ ?_<;>intro h2 q3 hF
 ·cases hF
  repeat first|refine cg ?_|simp -dsimp[h2]
  all_goals(try first|omega|rfl)
 ·repeat first|refine cg ?_|simp -dsimp[h2,q3]
  have hF:=ob hF;obtain⟨v4,e5,hF⟩:=hF
  refine((C.f3 B hB1 hB2 a.binds v v4 e5)).goW (by first|simp[h2,q3];done|simp_all) (by simp) ?_
  repeat first|refine cg ?_|simp -dsimp[h2,q3]
  revert hF;refine abr.sp ?_ ?_<;>intro h6 q7 hF
  ·cases hF
   repeat first|refine cg ?_|simp -dsimp[h2,q3,h6]
   all_goals(try first|omega|rfl)
  ·cases hF
   repeat first|refine cg ?_|simp -dsimp[h2,q3,h6,q7]
   all_goals(try first|omega|rfl)
theorem CC.f5 (a:List Step):(∀(left'3:Int) (i:Nat) (o:Lo Int Int),F.f5 a left'3 i=some o→∀(c:Code),navO [1,1,1,0,1,0,0] (bodyOf Tryd.f5)=some c→∀(Q:Exit→ASt→Prop),o.post (fun r=>∀st,Post Tryd.prog Tryd.f5 (fun r' _=>r'.le (.lit (.int .i64 r))) .ret st→Q .ret st) (fun s=>Q (.exit 0) ⟨[(1,.lit (.int .i64 s))],[]⟩)→ALoopU Tryd.prog B 0 27 (hold c .mk) ⟨[(0,.arr (List.map Step.c a)),(1,.lit (.int .i64 left'3)),(5,.lit (.int .i64 (i:Int)))],[]⟩ (hold Q .mk)):=by
 refine F.f5.partial_correctness a
  _
  ?_
 ·intro _f_f5 ih_f5 left'3 i o hF
  intro c hc Q hq
  obtain rfl:c=_:=navEq hc rfl
  refine ALoopU.know fun hk hs=> ?_
  have b0:=hk 0
  simp -dsimp at b0
  clear hk hs
  refine ALoopU.enter ?_
  repeat first|refine cg ?_|simp -dsimp
  revert hF;refine abr.sp ?_ ?_<;>intro h4 q5 hF
  ·have z6:((i:Int)<(a.length:Int)):=auz
   have hF:=ob hF;obtain⟨x,e7,hF⟩:=hF
   have le7:=lt_of_get e7
   repeat first|refine cg ?_|simp -dsimp[h4,z6,↓e7]
   have hF:=ob hF;obtain⟨v,e8,hF⟩:=hF
   refine((C.f4 B hB1 hB2 x left'3 v e8)).goW (by first|simp[h4,z6,↓e7];done|simp_all) (by simp) ?_
   repeat first|refine cg ?_|simp -dsimp[h4,z6,↓e7]
   revert hF;refine abr.sp ?_ ?_<;>intro h9 q10 hF
   ·cases hF
    repeat first|refine cg ?_|simp -dsimp[h4,z6,↓e7,h9]
    refine Leave.go _ (Gh.refl _) (hq _ ?_)
    repeat first|refine cg ?_|simp -dsimp[h4,z6,↓e7,h9]
   ·have w11:IntKind.i64.wrap ((i:Int)+1)=(i:Int)+1:=wrap_in (by omega) (by omega)
    repeat first|refine cg ?_|simp -dsimp[h4,z6,↓e7,h9,q10,w11]
    refine Again.go _ ?_ ((ih_f5 v (i+1) o hF) _ rfl _ hq)
    exact(Gh.to3 (by simp) (by first|simp -dsimp[h4,z6,↓e7,h9,q10,w11];done|simp_all))
  ·have z6:¬((i:Int)<(a.length:Int)):=auz
   cases hF
   repeat first|refine cg ?_|simp -dsimp[h4,q5,z6]
   refine Leave.go _ (Gh.to3 (by simp) (by first|simp -dsimp[h4,q5,z6];done|simp_all)) hq
theorem C.f6 (a:List Step)(left':Int)(r:Int)(hF:F.f6 a left'=some r):PureCall Tryd.prog B 5 [.arr (List.map Step.c a),.lit (.int .i64 left')] (.lit (.int .i64 r)):=by
 unfold F.f6 at hF
 refine PureCall.enterLe Tryd.func5 (by kernel_rfl) rfl Tryd.ntmps5 (by simp) (by simp) ?_
 repeat first|refine cg ?_|simp -dsimp
 revert hF;refine abr.sp ?_ ?_<;>intro h1 q2 hF
 ·cases hF
  repeat first|refine cg ?_|simp -dsimp[h1]
  all_goals(try first|omega|rfl)
 ·repeat first|refine cg ?_|simp -dsimp[h1,q2]
  have hF:=ob hF;obtain⟨o',ho12,hF⟩:=hF
  refine ALoop.goU _ ?_ (((CC.f5 B hB1 hB2 a) (IntKind.i64.wrap (left'- (a.length:Int))) 0 o' ho12) _ rfl _ ?_)
  ·exact(Gh.to3 (by simp) (by first|simp -dsimp[h1,q2];done|simp_all))
  rcases o' with r0|sx
  ·dsimp only at hF
   cases hF
   intro st h
   simpa using h
  ·dsimp only at hF
   cases hF
   repeat first|refine cg ?_|simp -dsimp
   all_goals(try first|omega|rfl)
theorem CC.f7 (a:List Int):(∀(out:List Int) (i:Nat) (o:List Int),F.f7 a out i=some o→∀(c:Code),navO [1,1,0,1,0,0] (bodyOf Tryd.f34)=some c→∀(Q:Exit→ASt→Prop),(Q (.exit 0) ⟨[(3,.own 0 (List.length (α:=Int) o))],[.elems 1 (List.map cI o)]⟩)→ALoopU Tryd.prog B 0 22 (hold c .mk) ⟨[(0,.arr (List.map cI a)),(3,.own 0 (List.length (α:=Int) out)),(4,.lit (.int .i64 (i:Int)))],[.elems 1 (List.map cI out)]⟩ (hold Q .mk)):=by
 refine F.f7.partial_correctness a
  _
  ?_
 ·intro _f_f7 ih_f7 out i o hF
  intro c hc Q hq
  obtain rfl:c=_:=navEq hc rfl
  refine ALoopU.know fun hk hs=> ?_
  have b0:=hk 0
  simp -dsimp at b0
  have d0:=hs 0 _ rfl
  simp -dsimp[Blk.bnd]at d0
  clear hk hs
  refine ALoopU.enter ?_
  repeat first|refine cg ?_|simp -dsimp
  revert hF;refine abr.sp ?_ ?_<;>intro h2 q3 hF
  ·have z4:((i:Int)<(a.length:Int)):=auz
   have hF:=ob hF;obtain⟨x,e5,hF⟩:=hF
   have le5:=lt_of_get e5
   have hF:=ob hF;obtain⟨x6,e7,hF⟩:=hF
   have le7:=lt_of_get e7
   have w8:IntKind.i64.wrap ((i:Int)+1)=(i:Int)+1:=wrap_in (by omega) (by omega)
   repeat first|refine cg ?_|simp -dsimp[h2,z4,↓e5,↓e7,w8]
   refine Again.go _ ?_ ((ih_f7 (out.set i x) (i+1) o hF) _ rfl _ hq)
   exact(Gh.to3 (by simp) (by first|simp -dsimp[h2,z4,↓e5,↓e7,w8];done|simp_all))
  ·have z4:¬((i:Int)<(a.length:Int)):=auz
   cases hF
   repeat first|refine cg ?_|simp -dsimp[h2,q3,z4]
   refine Leave.go _ (Gh.to3 (by simp) (by first|simp -dsimp[h2,q3,z4];done|simp_all)) hq
theorem C.f8 (a:List Int)(r:List Int)(hF:F.f8 a=some r):PureCall Tryd.prog B 34 [.arr (List.map cI a)] (.arr (List.map cI r)):=by
 unfold F.f8 at hF
 refine PureCall.enterLe Tryd.func34 (by kernel_rfl) rfl Tryd.ntmps34 (by simp) (by simp) ?_
 have hF:=oc hF;obtain⟨c1,hF⟩:=hF
 repeat first|refine cg ?_|simp -dsimp
 have hF:=ob hF;obtain⟨o',ho9,hF⟩:=hF
 refine ALoop.goU _ ?_ (((CC.f7 B hB1 hB2 a) (List.replicate a.length 0) 0 o' ho9) _ rfl _ ?_)
 ·exact(Gh.to3 (by simp) (by simp -dsimp))
 cases hF
 repeat first|refine cg ?_|simp -dsimp
 all_goals(try first|omega|rfl)
theorem C.f9 (a:PathBind)(r:PathBind)(hF:F.f9 a=some r):PureCall Tryd.prog B 48 [.agg [.lit (.int .i64 a.var),.arr (List.map cI a.path)]] (.agg [.lit (.int .i64 r.var),.arr (List.map cI r.path)]):=by
 unfold F.f9 at hF
 refine PureCall.enterLe Tryd.func48 (by kernel_rfl) rfl Tryd.ntmps48 (by simp) (by simp) ?_
 repeat first|refine cg ?_|simp -dsimp
 have hF:=ob hF;obtain⟨v,e1,hF⟩:=hF
 refine((C.f8 B hB1 hB2 a.path v e1)).goW (by simp) (by simp) ?_
 cases hF
 repeat first|refine cg ?_|simp -dsimp
 all_goals(try first|omega|rfl)
theorem CC.f10 (a:List PathBind):(∀(out:List PathBind) (i:Nat) (o:List PathBind),F.f10 a out i=some o→∀(c:Code),navO [1,1,0,1,0,0] (bodyOf Tryd.f35)=some c→∀(Q:Exit→ASt→Prop),(Q (.exit 0) ⟨[(3,.own 0 (List.length (α:=PathBind) o))],[.elems 2 (List.map PathBind.c o)]⟩)→ALoopU Tryd.prog B 0 23 (hold c .mk) ⟨[(0,.arr (List.map PathBind.c a)),(3,.own 0 (List.length (α:=PathBind) out)),(4,.lit (.int .i64 (i:Int)))],[.elems 2 (List.map PathBind.c out)]⟩ (hold Q .mk)):=by
 refine F.f10.partial_correctness a
  _
  ?_
 ·intro _f_f10 ih_f10 out i o hF
  intro c hc Q hq
  obtain rfl:c=_:=navEq hc rfl
  refine ALoopU.know fun hk hs=> ?_
  have b0:=hk 0
  simp -dsimp at b0
  have d0:=hs 0 _ rfl
  simp -dsimp[Blk.bnd]at d0
  clear hk hs
  refine ALoopU.enter ?_
  repeat first|refine cg ?_|simp -dsimp
  revert hF;refine abr.sp ?_ ?_<;>intro h2 q3 hF
  ·have z4:((i:Int)<(a.length:Int)):=auz
   have hF:=ob hF;obtain⟨x,e5,hF⟩:=hF
   have le5:=lt_of_get e5
   repeat first|refine cg ?_|simp -dsimp[h2,z4,↓e5]
   have hF:=ob hF;obtain⟨v,e6,hF⟩:=hF
   refine((C.f9 B hB1 hB2 x v e6)).goW (by first|simp[h2,z4,↓e5];done|simp_all) (by simp) ?_
   have hF:=ob hF;obtain⟨x7,e8,hF⟩:=hF
   have le8:=lt_of_get e8
   have w9:IntKind.i64.wrap ((i:Int)+1)=(i:Int)+1:=wrap_in (by omega) (by omega)
   repeat first|refine cg ?_|simp -dsimp[h2,z4,↓e5,↓e8,w9]
   refine Again.go _ ?_ ((ih_f10 (out.set i v) (i+1) o hF) _ rfl _ hq)
   exact(Gh.to3 (by simp) (by first|simp -dsimp[h2,z4,↓e5,↓e8,w9];done|simp_all))
  ·have z4:¬((i:Int)<(a.length:Int)):=auz
   cases hF
   repeat first|refine cg ?_|simp -dsimp[h2,q3,z4]
   refine Leave.go _ (Gh.to3 (by simp) (by first|simp -dsimp[h2,q3,z4];done|simp_all)) hq
theorem C.f11 (a:List PathBind)(r:List PathBind)(hF:F.f11 a=some r):PureCall Tryd.prog B 35 [.arr (List.map PathBind.c a)] (.arr (List.map PathBind.c r)):=by
 unfold F.f11 at hF
 refine PureCall.enterLe Tryd.func35 (by kernel_rfl) rfl Tryd.ntmps35 (by simp) (by simp) ?_
 have hF:=oc hF;obtain⟨c1,hF⟩:=hF
 repeat first|refine cg ?_|simp -dsimp
 have hF:=ob hF;obtain⟨o',ho10,hF⟩:=hF
 refine ALoop.goU _ ?_ (((CC.f10 B hB1 hB2 a) (List.replicate a.length PathBind.z) 0 o' ho10) _ rfl _ ?_)
 ·exact(Gh.to3 (by simp) (by simp -dsimp))
 cases hF
 repeat first|refine cg ?_|simp -dsimp
 all_goals(try first|omega|rfl)
theorem C.f12 (a:Step)(r:Step)(hF:F.f12 a=some r):PureCall Tryd.prog B 17 [.agg [.lit (.int .i64 a.op),.arr (List.map cI a.path),.lit (.int .i64 a.ctor),.lit (.int .i64 a.n),.lit (.int .i64 a.m),.lit (.int .i64 a.clause),.arr (List.map PathBind.c a.binds),.lit (.int .i64 a.to)]] (.agg [.lit (.int .i64 r.op),.arr (List.map cI r.path),.lit (.int .i64 r.ctor),.lit (.int .i64 r.n),.lit (.int .i64 r.m),.lit (.int .i64 r.clause),.arr (List.map PathBind.c r.binds),.lit (.int .i64 r.to)]):=by
 unfold F.f12 at hF
 refine PureCall.enterLe Tryd.func17 (by kernel_rfl) rfl Tryd.ntmps17 (by simp) (by simp) ?_
 repeat first|refine cg ?_|simp -dsimp
 have hF:=ob hF;obtain⟨v,e1,hF⟩:=hF
 refine((C.f8 B hB1 hB2 a.path v e1)).goW (by simp) (by simp) ?_
 repeat first|refine cg ?_|simp -dsimp
 have hF:=ob hF;obtain⟨v2,e3,hF⟩:=hF
 refine((C.f11 B hB1 hB2 a.binds v2 e3)).goW (by simp) (by simp) ?_
 cases hF
 repeat first|refine cg ?_|simp -dsimp
 all_goals(try first|omega|rfl)
theorem CC.f13 (a:List Step):(∀(out:List Step) (i:Nat) (o:List Step),F.f13 a out i=some o→∀(c:Code),navO [1,1,0,1,0,0] (bodyOf Tryd.f7)=some c→∀(Q:Exit→ASt→Prop),(Q (.exit 0) ⟨[(3,.own 0 (List.length (α:=Step) o))],[.elems 8 (List.map Step.c o)]⟩)→ALoopU Tryd.prog B 0 23 (hold c .mk) ⟨[(0,.arr (List.map Step.c a)),(3,.own 0 (List.length (α:=Step) out)),(4,.lit (.int .i64 (i:Int)))],[.elems 8 (List.map Step.c out)]⟩ (hold Q .mk)):=by
 refine F.f13.partial_correctness a
  _
  ?_
 ·intro _f_f13 ih_f13 out i o hF
  intro c hc Q hq
  obtain rfl:c=_:=navEq hc rfl
  refine ALoopU.know fun hk hs=> ?_
  have b0:=hk 0
  simp -dsimp at b0
  have d0:=hs 0 _ rfl
  simp -dsimp[Blk.bnd]at d0
  clear hk hs
  refine ALoopU.enter ?_
  repeat first|refine cg ?_|simp -dsimp
  revert hF;refine abr.sp ?_ ?_<;>intro h2 q3 hF
  ·have z4:((i:Int)<(a.length:Int)):=auz
   have hF:=ob hF;obtain⟨x,e5,hF⟩:=hF
   have le5:=lt_of_get e5
   repeat first|refine cg ?_|simp -dsimp[h2,z4,↓e5]
   have hF:=ob hF;obtain⟨v,e6,hF⟩:=hF
   refine((C.f12 B hB1 hB2 x v e6)).goW (by first|simp[h2,z4,↓e5];done|simp_all) (by simp) ?_
   have hF:=ob hF;obtain⟨x7,e8,hF⟩:=hF
   have le8:=lt_of_get e8
   have w9:IntKind.i64.wrap ((i:Int)+1)=(i:Int)+1:=wrap_in (by omega) (by omega)
   repeat first|refine cg ?_|simp -dsimp[h2,z4,↓e5,↓e8,w9]
   refine Again.go _ ?_ ((ih_f13 (out.set i v) (i+1) o hF) _ rfl _ hq)
   exact(Gh.to3 (by simp) (by first|simp -dsimp[h2,z4,↓e5,↓e8,w9];done|simp_all))
  ·have z4:¬((i:Int)<(a.length:Int)):=auz
   cases hF
   repeat first|refine cg ?_|simp -dsimp[h2,q3,z4]
   refine Leave.go _ (Gh.to3 (by simp) (by first|simp -dsimp[h2,q3,z4];done|simp_all)) hq
theorem C.f14 (a:List Step)(r:List Step)(hF:F.f14 a=some r):PureCall Tryd.prog B 7 [.arr (List.map Step.c a)] (.arr (List.map Step.c r)):=by
 unfold F.f14 at hF
 refine PureCall.enterLe Tryd.func7 (by kernel_rfl) rfl Tryd.ntmps7 (by simp) (by simp) ?_
 have hF:=oc hF;obtain⟨c1,hF⟩:=hF
 repeat first|refine cg ?_|simp -dsimp
 have hF:=ob hF;obtain⟨o',ho10,hF⟩:=hF
 refine ALoop.goU _ ?_ (((CC.f13 B hB1 hB2 a) (List.replicate a.length Step.z) 0 o' ho10) _ rfl _ ?_)
 ·exact(Gh.to3 (by simp) (by simp -dsimp))
 cases hF
 repeat first|refine cg ?_|simp -dsimp
 all_goals(try first|omega|rfl)
theorem CC.f15  :(∀(n7:Int) (out:ByteArray) (o:Int×ByteArray),F.f15 n7 out=some o→∀(c:Code),navO [1,1,1,1,0,0,0] (bodyOf Tryd.f25)=some c→∀(Q:Exit→ASt→Prop),(Q (.exit 0) ⟨[(0,.lit (.int .i64 o.1)),(3,.lit (.string o.2))],[]⟩)→ALoopU Tryd.prog B 0 31 (hold c .mk) ⟨[(0,.lit (.int .i64 n7)),(3,.lit (.string out))],[]⟩ (hold Q .mk)):=by
 refine F.f15.partial_correctness 
  _
  ?_
 ·intro _f_f15 ih_f15 n7 out o hF
  intro c hc Q hq
  obtain rfl:c=_:=navEq hc rfl
  refine ALoopU.know fun hk hs=> ?_
  clear hk hs
  refine ALoopU.enter ?_
  repeat first|refine cg ?_|simp -dsimp
  revert hF;refine abr.sp ?_ ?_<;>intro h8 q9 hF
  ·have hF:=oc hF;obtain⟨c10,hF⟩:=hF
   repeat first|refine cg ?_|simp -dsimp[h8]
   refine Again.go _ ?_ ((ih_f15 (IntKind.i64.wrap (n7.tdiv 10)) ((strB [IntKind.u8.wrap (IntKind.i64.wrap (48+n7.tmod 10))])++out) o hF) _ rfl _ hq)
   exact(Gh.to3 (by simp) (by first|simp -dsimp[h8];done|simp_all))
  ·cases hF
   repeat first|refine cg ?_|simp -dsimp[h8,q9]
   refine Leave.go _ (Gh.to3 (by simp) (by first|simp -dsimp[h8,q9];done|simp_all)) hq
theorem CC.f16  :(∀(n:Int) (r:ByteArray),F.f16 n=some r→PureCall Tryd.prog B 25 [.lit (.int .i64 n)] (.lit (.string r))):=by
 refine F.f16.partial_correctness 
  _
  ?_
 ·intro _f_f16 ih_f16 n r hF
  refine PureCall.enterLe Tryd.func25 (by kernel_rfl) rfl Tryd.ntmps25 (by simp) (by simp) ?_
  repeat first|refine cg ?_|simp -dsimp
  revert hF;refine abr.sp ?_ ?_<;>intro h1 q2 hF
  ·cases hF
   repeat first|refine cg ?_|simp -dsimp[h1]
   all_goals(try first|omega|rfl)
  ·repeat first|refine cg ?_|simp -dsimp[h1,q2]
   revert hF;refine abr.sp ?_ ?_<;>intro h3 q4 hF
   ·repeat first|refine cg ?_|simp -dsimp[h1,q2,h3]
    have hF:=ob hF;obtain⟨v,e5,hF⟩:=hF
    refine((ih_f16 (IntKind.i64.wrap (0-n)) v e5)).goW (by first|simp[h1,q2,h3];done|simp_all) (by simp) ?_
    have hF:=oc hF;obtain⟨c6,hF⟩:=hF
    cases hF
    repeat first|refine cg ?_|simp -dsimp[h1,q2,h3]
    all_goals(try first|omega|rfl)
   ·repeat first|refine cg ?_|simp -dsimp[h1,q2,h3,q4]
    have hF:=ob hF;obtain⟨o',ho11,hF⟩:=hF
    refine ALoop.goU _ ?_ (((CC.f15 B hB1 hB2) n ByteArray.empty o' ho11) _ rfl _ ?_)
    ·exact(Gh.to3 (by simp) (by first|simp -dsimp[h1,q2,h3,q4];done|simp_all))
    have hF:=oc hF;obtain⟨c12,hF⟩:=hF
    cases hF
    repeat first|refine cg ?_|simp -dsimp
    all_goals(try first|omega|rfl)
theorem CC.f17 (path:List Int):(∀(out:ByteArray) (i:Nat) (o:ByteArray),F.f17 path out i=some o→∀(c:Code),navO [1,1,0,1,0,0] (bodyOf Tryd.f32)=some c→∀(Q:Exit→ASt→Prop),(Q (.exit 0) ⟨[(3,.lit (.string o))],[]⟩)→ALoopU Tryd.prog B 0 20 (hold c .mk) ⟨[(0,.arr (List.map cI path)),(3,.lit (.string out)),(4,.lit (.int .i64 (i:Int)))],[]⟩ (hold Q .mk)):=by
 refine F.f17.partial_correctness path
  _
  ?_
 ·intro _f_f17 ih_f17 out i o hF
  intro c hc Q hq
  obtain rfl:c=_:=navEq hc rfl
  refine ALoopU.know fun hk hs=> ?_
  have b0:=hk 0
  simp -dsimp at b0
  clear hk hs
  refine ALoopU.enter ?_
  repeat first|refine cg ?_|simp -dsimp
  revert hF;refine abr.sp ?_ ?_<;>intro h1 q2 hF
  ·have z3:((i:Int)<(path.length:Int)):=auz
   have hF:=oc hF;obtain⟨c4,hF⟩:=hF
   have hF:=ob hF;obtain⟨x,e5,hF⟩:=hF
   have le5:=lt_of_get e5
   repeat first|refine cg ?_|simp -dsimp[h1,z3,↓e5]
   have hF:=ob hF;obtain⟨v,e6,hF⟩:=hF
   refine(((CC.f16 B hB1 hB2) x v e6)).goW (by first|simp[h1,z3,↓e5];done|simp_all) (by simp) ?_
   have hF:=oc hF;obtain⟨c7,hF⟩:=hF
   have dc7:=c7;simp only[ByteArray.size_append]at dc7
   have w8:IntKind.i64.wrap ((i:Int)+1)=(i:Int)+1:=wrap_in (by omega) (by omega)
   repeat first|refine cg ?_|simp -dsimp[h1,z3,↓e5,w8]
   refine Again.go _ ?_ ((ih_f17 ((out++(⟨#[46]⟩:ByteArray))++v) (i+1) o hF) _ rfl _ hq)
   exact(Gh.to3 (by simp) (by first|simp -dsimp[h1,z3,↓e5,w8];done|simp_all))
  ·have z3:¬((i:Int)<(path.length:Int)):=auz
   cases hF
   repeat first|refine cg ?_|simp -dsimp[h1,q2,z3]
   refine Leave.go _ (Gh.to3 (by simp) (by first|simp -dsimp[h1,q2,z3];done|simp_all)) hq
theorem C.f18 (path:List Int)(r:ByteArray)(hF:F.f18 path=some r):PureCall Tryd.prog B 32 [.arr (List.map cI path)] (.lit (.string r)):=by
 unfold F.f18 at hF
 refine PureCall.enterLe Tryd.func32 (by kernel_rfl) rfl Tryd.ntmps32 (by simp) (by simp) ?_
 repeat first|refine cg ?_|simp -dsimp
 have hF:=ob hF;obtain⟨o',ho9,hF⟩:=hF
 refine ALoop.goU _ ?_ (((CC.f17 B hB1 hB2 path) (⟨#[118]⟩:ByteArray) 0 o' ho9) _ rfl _ ?_)
 ·exact(Gh.to3 (by simp) (by simp -dsimp))
 cases hF
 repeat first|refine cg ?_|simp -dsimp
 all_goals(try first|omega|rfl)
theorem C.f19 (n:Int)(r:ByteArray)(hF:F.f19 n=some r):PureCall Tryd.prog B 33 [.lit (.int .i64 n)] (.lit (.string r)):=by
 unfold F.f19 at hF
 refine PureCall.enterLe Tryd.func33 (by kernel_rfl) rfl Tryd.ntmps33 (by simp) (by simp) ?_
 repeat first|refine cg ?_|simp -dsimp
 revert hF;refine abr.sp ?_ ?_<;>intro h1 q2 hF
 ·repeat first|refine cg ?_|simp -dsimp[h1]
  revert hF;refine abr.sp ?_ ?_<;>intro h3 q4 hF
  ·repeat first|refine cg ?_|simp -dsimp[h1,h3]
   have hF:=ob hF;obtain⟨v,e5,hF⟩:=hF
   refine(((CC.f16 B hB1 hB2) (IntKind.i64.wrap (0-n)) v e5)).goW (by first|simp[h1,h3];done|simp_all) (by simp) ?_
   have hF:=oc hF;obtain⟨c6,hF⟩:=hF
   cases hF
   repeat first|refine cg ?_|simp -dsimp[h1,h3]
   all_goals(try first|omega|rfl)
  ·repeat first|refine cg ?_|simp -dsimp[h1,h3,q4]
   have hF:=ob hF;obtain⟨v7,e8,hF⟩:=hF
   refine(((CC.f16 B hB1 hB2) n v7 e8)).goW (by first|simp[h1,h3,q4];done|simp_all) (by simp) ?_
   cases hF
   repeat first|refine cg ?_|simp -dsimp[h1,h3,q4]
   all_goals(try first|omega|rfl)
 ·repeat first|refine cg ?_|simp -dsimp[h1,q2]
  have hF:=ob hF;obtain⟨v9,e10,hF⟩:=hF
  refine(((CC.f16 B hB1 hB2) n v9 e10)).goW (by first|simp[h1,q2];done|simp_all) (by simp) ?_
  cases hF
  repeat first|refine cg ?_|simp -dsimp[h1,q2]
  all_goals(try first|omega|rfl)
theorem CC.f20 (x:Step):(∀(out:ByteArray) (i:Nat) (o:ByteArray),F.f20 x out i=some o→∀(c:Code),navO [1,0,1,0,1,1,1,0,1,0,1,0,0] (bodyOf Tryd.f16)=some c→∀(Q:Exit→ASt→Prop),(Q (.exit 1) ⟨[(1,.ptr 0 0),(3,.lit (.string o))],[.cells [.lit (.int .i64 x.op),.arr (List.map cI x.path),.lit (.int .i64 x.ctor),.lit (.int .i64 x.n),.lit (.int .i64 x.m),.lit (.int .i64 x.clause),.arr (List.map PathBind.c x.binds),.lit (.int .i64 x.to)]]⟩)→ALoopU Tryd.prog B 0 83 (hold c .mk) ⟨[(1,.ptr 0 0),(3,.lit (.string out)),(4,.lit (.int .i64 (i:Int)))],[.cells [.lit (.int .i64 x.op),.arr (List.map cI x.path),.lit (.int .i64 x.ctor),.lit (.int .i64 x.n),.lit (.int .i64 x.m),.lit (.int .i64 x.clause),.arr (List.map PathBind.c x.binds),.lit (.int .i64 x.to)]]⟩ (hold Q .mk)):=by
 refine F.f20.partial_correctness x
  _
  ?_
 ·intro _f_f20 ih_f20 out i o hF
  intro c hc Q hq
  obtain rfl:c=_:=navEq hc rfl
  refine ALoopU.know fun hk hs=> ?_
  have d0:=hs 0 _ rfl
  simp -dsimp[Blk.bnd]at d0
  clear hk hs
  refine ALoopU.enter ?_
  repeat first|refine cg ?_|simp -dsimp
  revert hF;refine abr.sp ?_ ?_<;>intro h35 q36 hF
  ·have z37:((i:Int)<(x.binds.length:Int)):=auz
   repeat first|refine cg ?_|simp -dsimp[h35,z37]
   refine ADraw.simple follows (by kernel_rfl) (by kernel_rfl) ?_
   have hF:=oc hF;obtain⟨c38,hF⟩:=hF
   have hF:=ob hF;obtain⟨x39,e40,hF⟩:=hF
   have le40:=lt_of_get e40
   repeat first|refine cg ?_|simp -dsimp[h35,z37,↓e40]
   have hF:=ob hF;obtain⟨v41,e42,hF⟩:=hF
   refine((C.f19 B hB1 hB2 x39.var v41 e42)).pgoW (by first|simp[h35,z37,↓e40];done|simp_all) (by simp) ?_
   have hF:=oc hF;obtain⟨c43,hF⟩:=hF
   have dc43:=c43;simp only[ByteArray.size_append]at dc43
   have hF:=oc hF;obtain⟨c44,hF⟩:=hF
   have dc44:=c44;simp only[ByteArray.size_append]at dc44
   repeat first|refine cg ?_|simp -dsimp[h35,z37,↓e40]
   have hF:=ob hF;obtain⟨v45,e46,hF⟩:=hF
   refine((C.f18 B hB1 hB2 x39.path v45 e46)).pgoW (by first|simp[h35,z37,↓e40];done|simp_all) (by simp) ?_
   have hF:=oc hF;obtain⟨c47,hF⟩:=hF
   have dc47:=c47;simp only[ByteArray.size_append]at dc47
   have w48:IntKind.i64.wrap ((i:Int)+1)=(i:Int)+1:=wrap_in (by omega) (by omega)
   repeat first|refine cg ?_|simp -dsimp[h35,z37,↓e40,w48]
   refine Again.go _ ?_ ((ih_f20 ((((out++(⟨#[32]⟩:ByteArray))++v41)++(⟨#[61]⟩:ByteArray))++v45) (i+1) o hF) _ rfl _ hq)
   exact(Gh.to3 (by simp) (by first|simp -dsimp[h35,z37,↓e40,w48];done|simp_all))
  ·have z37:¬((i:Int)<(x.binds.length:Int)):=auz
   cases hF
   repeat first|refine cg ?_|simp -dsimp[h35,q36,z37]
   refine Leave.go _ (Gh.to3 (by simp) (by first|simp -dsimp[h35,q36,z37];done|simp_all)) hq
theorem C.f21 (x:Step)(r:ByteArray)(hF:F.f21 x=some r):PureCall Tryd.prog B 16 [.agg [.lit (.int .i64 x.op),.arr (List.map cI x.path),.lit (.int .i64 x.ctor),.lit (.int .i64 x.n),.lit (.int .i64 x.m),.lit (.int .i64 x.clause),.arr (List.map PathBind.c x.binds),.lit (.int .i64 x.to)]] (.lit (.string r)):=by
 unfold F.f21 at hF
 refine PureCall.enterLe Tryd.func16 (by kernel_rfl) rfl Tryd.ntmps16 (by simp) (by simp) ?_
 repeat first|refine cg ?_|simp -dsimp
 revert hF;refine abr.sp ?_ ?_<;>intro h1 q2 hF
 ·repeat first|refine cg ?_|simp -dsimp[h1]
  revert hF;refine abr.sp ?_ ?_<;>intro h3 q4 hF
  ·repeat first|refine cg ?_|simp -dsimp[h1,h3]
   refine ADraw.simple follows (by kernel_rfl) (by kernel_rfl) ?_
   repeat first|refine cg ?_|simp -dsimp[h1,h3]
   have hF:=ob hF;obtain⟨v,e5,hF⟩:=hF
   refine((C.f18 B hB1 hB2 x.path v e5)).pgoW (by first|simp[h1,h3];done|simp_all) (by simp) ?_
   have hF:=oc hF;obtain⟨c6,hF⟩:=hF
   have hF:=oc hF;obtain⟨c7,hF⟩:=hF
   have dc7:=c7;simp only[ByteArray.size_append]at dc7
   repeat first|refine cg ?_|simp -dsimp[h1,h3]
   have hF:=ob hF;obtain⟨v8,e9,hF⟩:=hF
   refine((C.f19 B hB1 hB2 x.n v8 e9)).pgoW (by first|simp[h1,h3];done|simp_all) (by simp) ?_
   have hF:=oc hF;obtain⟨c10,hF⟩:=hF
   have dc10:=c10;simp only[ByteArray.size_append]at dc10
   have hF:=oc hF;obtain⟨c11,hF⟩:=hF
   have dc11:=c11;simp only[ByteArray.size_append]at dc11
   repeat first|refine cg ?_|simp -dsimp[h1,h3]
   have hF:=ob hF;obtain⟨v12,e13,hF⟩:=hF
   refine((C.f19 B hB1 hB2 x.m v12 e13)).pgoW (by first|simp[h1,h3];done|simp_all) (by simp) ?_
   have hF:=oc hF;obtain⟨c14,hF⟩:=hF
   have dc14:=c14;simp only[ByteArray.size_append]at dc14
   have hF:=oc hF;obtain⟨c15,hF⟩:=hF
   have dc15:=c15;simp only[ByteArray.size_append]at dc15
   repeat first|refine cg ?_|simp -dsimp[h1,h3]
   have hF:=ob hF;obtain⟨v16,e17,hF⟩:=hF
   refine((C.f19 B hB1 hB2 x.to v16 e17)).pgoW (by first|simp[h1,h3];done|simp_all) (by simp) ?_
   have hF:=oc hF;obtain⟨c18,hF⟩:=hF
   have dc18:=c18;simp only[ByteArray.size_append]at dc18
   cases hF
   repeat first|refine cg ?_|simp -dsimp[h1,h3]
   all_goals(try first|omega|rfl)
  ·repeat first|refine cg ?_|simp -dsimp[h1,h3,q4]
   refine ADraw.simple follows (by kernel_rfl) (by kernel_rfl) ?_
   repeat first|refine cg ?_|simp -dsimp[h1,h3,q4]
   have hF:=ob hF;obtain⟨v19,e20,hF⟩:=hF
   refine((C.f18 B hB1 hB2 x.path v19 e20)).pgoW (by first|simp[h1,h3,q4];done|simp_all) (by simp) ?_
   have hF:=oc hF;obtain⟨c21,hF⟩:=hF
   have hF:=oc hF;obtain⟨c22,hF⟩:=hF
   have dc22:=c22;simp only[ByteArray.size_append]at dc22
   repeat first|refine cg ?_|simp -dsimp[h1,h3,q4]
   have hF:=ob hF;obtain⟨v23,e24,hF⟩:=hF
   refine((C.f19 B hB1 hB2 x.ctor v23 e24)).pgoW (by first|simp[h1,h3,q4];done|simp_all) (by simp) ?_
   have hF:=oc hF;obtain⟨c25,hF⟩:=hF
   have dc25:=c25;simp only[ByteArray.size_append]at dc25
   have hF:=oc hF;obtain⟨c26,hF⟩:=hF
   have dc26:=c26;simp only[ByteArray.size_append]at dc26
   repeat first|refine cg ?_|simp -dsimp[h1,h3,q4]
   have hF:=ob hF;obtain⟨v27,e28,hF⟩:=hF
   refine((C.f19 B hB1 hB2 x.to v27 e28)).pgoW (by first|simp[h1,h3,q4];done|simp_all) (by simp) ?_
   have hF:=oc hF;obtain⟨c29,hF⟩:=hF
   have dc29:=c29;simp only[ByteArray.size_append]at dc29
   cases hF
   repeat first|refine cg ?_|simp -dsimp[h1,h3,q4]
   all_goals(try first|omega|rfl)
 ·repeat first|refine cg ?_|simp -dsimp[h1,q2]
  revert hF;refine abr.sp ?_ ?_<;>intro h30 q31 hF
  ·repeat first|refine cg ?_|simp -dsimp[h1,q2,h30]
   have hF:=ob hF;obtain⟨v32,e33,hF⟩:=hF
   refine((C.f19 B hB1 hB2 x.clause v32 e33)).goW (by first|simp[h1,q2,h30];done|simp_all) (by simp) ?_
   have hF:=oc hF;obtain⟨c34,hF⟩:=hF
   repeat first|refine cg ?_|simp -dsimp[h1,q2,h30]
   have hF:=ob hF;obtain⟨o',ho49,hF⟩:=hF
   refine ALoop.goU _ ?_ (((CC.f20 B hB1 hB2 x) ((⟨#[116,97,107,101,32]⟩:ByteArray)++v32) 0 o' ho49) _ rfl _ ?_)
   ·exact(Gh.to3 (by simp) (by first|simp -dsimp[h1,q2,h30];done|simp_all))
   have hF:=oc hF;obtain⟨c50,hF⟩:=hF
   repeat first|refine cg ?_|simp -dsimp
   have hF:=ob hF;obtain⟨v51,e52,hF⟩:=hF
   refine((C.f19 B hB1 hB2 x.to v51 e52)).goW (by simp) (by simp) ?_
   have hF:=oc hF;obtain⟨c53,hF⟩:=hF
   have dc53:=c53;simp only[ByteArray.size_append]at dc53
   cases hF
   repeat first|refine cg ?_|simp -dsimp
   all_goals(try first|omega|rfl)
  ·cases hF
   repeat first|refine cg ?_|simp -dsimp[h1,q2,h30,q31]
   all_goals(try first|omega|rfl)
theorem CC.f22 (list:List Step):(∀(out:ByteArray) (i:Nat) (o:ByteArray),F.f22 list out i=some o→∀(c:Code),navO [1,1,0,1,0,0] (bodyOf Tryd.f6)=some c→∀(Q:Exit→ASt→Prop),(Q (.exit 0) ⟨[(3,.lit (.string o))],[]⟩)→ALoopU Tryd.prog B 0 20 (hold c .mk) ⟨[(0,.arr (List.map Step.c list)),(3,.lit (.string out)),(4,.lit (.int .i64 (i:Int)))],[]⟩ (hold Q .mk)):=by
 refine F.f22.partial_correctness list
  _
  ?_
 ·intro _f_f22 ih_f22 out i o hF
  intro c hc Q hq
  obtain rfl:c=_:=navEq hc rfl
  refine ALoopU.know fun hk hs=> ?_
  have b0:=hk 0
  simp -dsimp at b0
  clear hk hs
  refine ALoopU.enter ?_
  repeat first|refine cg ?_|simp -dsimp
  revert hF;refine abr.sp ?_ ?_<;>intro h1 q2 hF
  ·have z3:((i:Int)<(list.length:Int)):=auz
   have hF:=ob hF;obtain⟨x,e4,hF⟩:=hF
   have le4:=lt_of_get e4
   repeat first|refine cg ?_|simp -dsimp[h1,z3,↓e4]
   have hF:=ob hF;obtain⟨v,e5,hF⟩:=hF
   refine((C.f21 B hB1 hB2 x v e5)).goW (by first|simp[h1,z3,↓e4];done|simp_all) (by simp) ?_
   have hF:=oc hF;obtain⟨c6,hF⟩:=hF
   have hF:=oc hF;obtain⟨c7,hF⟩:=hF
   have dc7:=c7;simp only[ByteArray.size_append]at dc7
   have w8:IntKind.i64.wrap ((i:Int)+1)=(i:Int)+1:=wrap_in (by omega) (by omega)
   repeat first|refine cg ?_|simp -dsimp[h1,z3,↓e4,w8]
   refine Again.go _ ?_ ((ih_f22 ((out++v)++(⟨#[10]⟩:ByteArray)) (i+1) o hF) _ rfl _ hq)
   exact(Gh.to3 (by simp) (by first|simp -dsimp[h1,z3,↓e4,w8];done|simp_all))
  ·have z3:¬((i:Int)<(list.length:Int)):=auz
   cases hF
   repeat first|refine cg ?_|simp -dsimp[h1,q2,z3]
   refine Leave.go _ (Gh.to3 (by simp) (by first|simp -dsimp[h1,q2,z3];done|simp_all)) hq
theorem C.f23 (list:List Step)(r:ByteArray)(hF:F.f23 list=some r):PureCall Tryd.prog B 6 [.arr (List.map Step.c list)] (.lit (.string r)):=by
 unfold F.f23 at hF
 refine PureCall.enterLe Tryd.func6 (by kernel_rfl) rfl Tryd.ntmps6 (by simp) (by simp) ?_
 repeat first|refine cg ?_|simp -dsimp
 have hF:=ob hF;obtain⟨o',ho9,hF⟩:=hF
 refine ALoop.goU _ ?_ (((CC.f22 B hB1 hB2 list) ByteArray.empty 0 o' ho9) _ rfl _ ?_)
 ·exact(Gh.to3 (by simp) (by simp -dsimp))
 cases hF
 repeat first|refine cg ?_|simp -dsimp
 all_goals(try first|omega|rfl)
theorem C.f24 (i:Int)(r:ByteArray)(hF:F.f24 i=some r):PureCall Tryd.prog B 18 [.lit (.int .i64 i)] (.lit (.string r)):=by
 unfold F.f24 at hF
 have hF:=oc hF;obtain⟨c1,hF⟩:=hF
 cases hF
 exact shelf_itoaT Tryd.laysM171 ⟨Tryd.f18,Tryd.func18,by kernel_rfl,by kernel_rfl⟩ (by kernel_rfl) (by rfl) hB2.2 c1.1 c1.2
theorem CC.f25 (path:List Int):(∀(out:ByteArray) (i:Nat) (o:ByteArray),F.f25 path out i=some o→∀(c:Code),navO [1,1,0,1,0,0] (bodyOf Tryd.f20)=some c→∀(Q:Exit→ASt→Prop),(Q (.exit 0) ⟨[(3,.lit (.string o))],[]⟩)→ALoopU Tryd.prog B 0 19 (hold c .mk) ⟨[(3,.lit (.string out)),(6,.arr (List.map cI path)),(7,.lit (.int .i64 (path.length:Int))),(8,.lit (.int .i64 (i:Int)))],[]⟩ (hold Q .mk)):=by
 refine F.f25.partial_correctness path
  _
  ?_
 ·intro _f_f25 ih_f25 out i o hF
  intro c hc Q hq
  obtain rfl:c=_:=navEq hc rfl
  refine ALoopU.know fun hk hs=> ?_
  have b6:=hk 6
  simp -dsimp at b6
  clear hk hs
  refine ALoopU.enter ?_
  repeat first|refine cg ?_|simp -dsimp
  revert hF;refine abr.sp ?_ ?_<;>intro h1 q2 hF
  ·have z3:((i:Int)<(path.length:Int)):=auz
   have hF:=ob hF;obtain⟨x,e4,hF⟩:=hF
   have le4:=lt_of_get e4
   repeat first|refine cg ?_|simp -dsimp[h1,z3,↓e4]
   have hF:=ob hF;obtain⟨v,e5,hF⟩:=hF
   refine((C.f24 B hB1 hB2 x v e5)).goW (by first|simp[h1,z3,↓e4];done|simp_all) (by simp) ?_
   have hF:=oc hF;obtain⟨c6,hF⟩:=hF
   have hF:=oc hF;obtain⟨c7,hF⟩:=hF
   have dc7:=c7;simp only[ByteArray.size_append]at dc7
   have w8:IntKind.i64.wrap ((i:Int)+1)=(i:Int)+1:=wrap_in (by omega) (by omega)
   repeat first|refine cg ?_|simp -dsimp[h1,z3,↓e4,w8]
   refine Again.go _ ?_ ((ih_f25 (out++((⟨#[46]⟩:ByteArray)++v)) (i+1) o hF) _ rfl _ hq)
   exact(Gh.to3 (by simp) (by first|simp -dsimp[h1,z3,↓e4,w8];done|simp_all))
  ·have z3:¬((i:Int)<(path.length:Int)):=auz
   cases hF
   repeat first|refine cg ?_|simp -dsimp[h1,q2,z3]
   refine Leave.go _ (Gh.to3 (by simp) (by first|simp -dsimp[h1,q2,z3];done|simp_all)) hq
theorem C.f26 (path:List Int)(r:ByteArray)(hF:F.f26 path=some r):PureCall Tryd.prog B 20 [.arr (List.map cI path)] (.lit (.string r)):=by
 unfold F.f26 at hF
 refine PureCall.enterLe Tryd.func20 (by kernel_rfl) rfl Tryd.ntmps20 (by simp) (by simp) ?_
 repeat first|refine cg ?_|simp -dsimp
 have hF:=ob hF;obtain⟨o',ho9,hF⟩:=hF
 refine ALoop.goU _ ?_ (((CC.f25 B hB1 hB2 path) (⟨#[118]⟩:ByteArray) 0 o' ho9) _ rfl _ ?_)
 ·exact(Gh.to3 (by simp) (by simp -dsimp))
 cases hF
 repeat first|refine cg ?_|simp -dsimp
 all_goals(try first|omega|rfl)
theorem CC.f27 (list:List Step)(i:Nat)(x:Step):(∀(out47:List Int) (i48:Nat) (o:List Int),F.f27 list i x out47 i48=some o→∀(c:Code),navO [1,1,0,1,0,0,1,1,0,0,1,1,0,1,1,1,0,1,0,1,0,0] (bodyOf Tryd.f8)=some c→∀(Q:Exit→ASt→Prop),(Q (.exit 3) ⟨[(3,.ptr 0 0),(5,.ptr 2 0),(9,.arr (List.map Step.c list)),(10,.lit (.int .i64 (list.length:Int))),(11,.lit (.int .i64 (i:Int)))],[.tcells (some 49) [.junk,.own 1 (List.length (α:=Int) o)],.telems (some 5) 1 (List.map cU o),.cells [.lit (.int .i64 x.op),.arr (List.map cI x.path),.lit (.int .i64 x.ctor),.lit (.int .i64 x.n),.lit (.int .i64 x.m),.lit (.int .i64 x.clause),.arr (List.map PathBind.c x.binds),.lit (.int .i64 x.to)]]⟩)→ALoopU Tryd.prog B 0 82 (hold c .mk) ⟨[(3,.ptr 0 0),(5,.ptr 2 0),(9,.arr (List.map Step.c list)),(10,.lit (.int .i64 (list.length:Int))),(11,.lit (.int .i64 (i:Int))),(57,.arr (List.map PathBind.c x.binds)),(58,.lit (.int .i64 (x.binds.length:Int))),(59,.lit (.int .i64 (i48:Int)))],[.tcells (some 49) [.junk,.own 1 (List.length (α:=Int) out47)],.telems (some 5) 1 (List.map cU out47),.cells [.lit (.int .i64 x.op),.arr (List.map cI x.path),.lit (.int .i64 x.ctor),.lit (.int .i64 x.n),.lit (.int .i64 x.m),.lit (.int .i64 x.clause),.arr (List.map PathBind.c x.binds),.lit (.int .i64 x.to)]]⟩ (hold Q .mk)):=by
 refine F.f27.partial_correctness list i x
  _
  ?_
 ·intro _f_f27 ih_f27 out47 i48 o hF
  intro c hc Q hq
  obtain rfl:c=_:=navEq hc rfl
  refine ALoopU.know fun hk hs=> ?_
  have b9:=hk 9
  simp -dsimp at b9
  have b57:=hk 57
  simp -dsimp at b57
  have d1:=hs 1 _ rfl
  simp -dsimp[Blk.bnd]at d1
  have d2:=hs 2 _ rfl
  simp -dsimp[Blk.bnd]at d2
  clear hk hs
  refine ALoopU.enter ?_
  repeat first|refine cg ?_|simp -dsimp
  revert hF;refine abr.sp ?_ ?_<;>intro h49 q50 hF
  ·have z51:((i48:Int)<(x.binds.length:Int)):=auz
   have hF:=ob hF;obtain⟨x52,e53,hF⟩:=hF
   have le53:=lt_of_get e53
   repeat first|refine cg ?_|simp -dsimp[h49,z51,↓e53]
   refine ADraw.eff [19] [(0,0),(0,0),(0,1),(0,0),(0,0),(0,0),(0,0),(0,1),(0,0),(0,1)] [1,1,1,1,1,1,1,1,1,1] follows (by kernel_rfl) (by kernel_rfl) (by kernel_rfl) ?_
   repeat first|refine cg ?_|simp -dsimp[h49,z51,↓e53]
   have hF:=ob hF;obtain⟨v54,e55,hF⟩:=hF
   refine((C.f24 B hB1 hB2 x52.var v54 e55)).pgoW (by first|simp[h49,z51,↓e53];done|simp_all) (by simp) ?_
   have hF:=oc hF;obtain⟨c56,hF⟩:=hF
   have hF:=oc hF;obtain⟨c57,hF⟩:=hF
   have dc57:=c57;simp only[ByteArray.size_append]at dc57
   repeat first|refine cg ?_|simp -dsimp[h49,z51,↓e53]
   have hF:=ob hF;obtain⟨v58,e59,hF⟩:=hF
   refine((C.f26 B hB1 hB2 x52.path v58 e59)).pgoW (by first|simp[h49,z51,↓e53];done|simp_all) (by simp) ?_
   have hF:=oc hF;obtain⟨c60,hF⟩:=hF
   have dc60:=c60;simp only[ByteArray.size_append]at dc60
   have hF:=oc hF;obtain⟨c61,hF⟩:=hF
   have dc61:=c61;simp only[List.length_append,ByteArray.size_append]at dc61
   repeat first|refine cg ?_|simp -dsimp[h49,z51,↓e53]
   refine ECallA.bldW Tryd.bldW ⟨Tryd.f19,Tryd.func19,by kernel_rfl,by kernel_rfl⟩ 0 1 (xs:=out47) (by first|rfl|(simp;done)|(simp[h49,z51,↓e53];done)) (by first|rfl|(simp;done)|(simp[h49,z51,↓e53];done)) (by first|omega|simpa using c61|(simp;omega)) (by omega) ?_
   have w62:IntKind.i64.wrap ((i48:Int)+1)=(i48:Int)+1:=wrap_in (by omega) (by omega)
   repeat first|refine cg ?_|simp -dsimp[h49,z51,↓e53,w62]
   refine Again.go _ ?_ ((ih_f27 (out47++bytesI ((((⟨#[32]⟩:ByteArray)++v54)++(⟨#[61]⟩:ByteArray))++v58)) (i48+1) o hF) _ rfl _ hq)
   exact(Gh.to3 (by simp) (by first|simp -dsimp[h49,z51,↓e53,w62];done|simp_all))
  ·have z51:¬((i48:Int)<(x.binds.length:Int)):=auz
   cases hF
   repeat first|refine cg ?_|simp -dsimp[h49,q50,z51]
   refine Leave.go _ (Gh.to3 (by simp) (by first|simp -dsimp[h49,q50,z51];done|simp_all)) hq
theorem CC.f28 (list:List Step):(∀(out:List Int) (i:Nat) (o:List Int),F.f28 list out i=some o→∀(c:Code),navO [1,1,0,1,0,0] (bodyOf Tryd.f8)=some c→∀(Q:Exit→ASt→Prop),(Q (.exit 0) ⟨[(3,.ptr 0 0)],[.tcells (some 49) [.junk,.own 1 (List.length (α:=Int) o)],.telems (some 5) 1 (List.map cU o)]⟩)→ALoopU Tryd.prog B 0 82 (hold c .mk) ⟨[(3,.ptr 0 0),(9,.arr (List.map Step.c list)),(10,.lit (.int .i64 (list.length:Int))),(11,.lit (.int .i64 (i:Int)))],[.tcells (some 49) [.junk,.own 1 (List.length (α:=Int) out)],.telems (some 5) 1 (List.map cU out)]⟩ (hold Q .mk)):=by
 refine F.f28.partial_correctness list
  _
  ?_
 ·intro _f_f28 ih_f28 out i o hF
  intro c hc Q hq
  obtain rfl:c=_:=navEq hc rfl
  refine ALoopU.know fun hk hs=> ?_
  have b9:=hk 9
  simp -dsimp at b9
  have d1:=hs 1 _ rfl
  simp -dsimp[Blk.bnd]at d1
  clear hk hs
  refine ALoopU.enter ?_
  repeat first|refine cg ?_|simp -dsimp
  revert hF;refine abr.sp ?_ ?_<;>intro h1 q2 hF
  ·have z3:((i:Int)<(list.length:Int)):=auz
   have hF:=ob hF;obtain⟨x,e4,hF⟩:=hF
   have le4:=lt_of_get e4
   repeat first|refine cg ?_|simp -dsimp[h1,z3,↓e4]
   revert hF;refine abr.sp ?_ ?_<;>intro h5 q6 hF
   ·repeat first|refine cg ?_|simp -dsimp[h1,z3,↓e4,h5]
    have hF:=ob hF;obtain⟨v,e7,hF⟩:=hF
    refine((C.f24 B hB1 hB2 x.ctor v e7)).goW (by first|simp[h1,z3,↓e4,h5];done|simp_all) (by simp) ?_
    have hF:=oc hF;obtain⟨c8,hF⟩:=hF
    repeat first|refine cg ?_|simp -dsimp[h1,z3,↓e4,h5]
    revert hF;refine abr.sp ?_ ?_<;>intro h9 q10 hF
    ·repeat first|refine cg ?_|simp -dsimp[h1,z3,↓e4,h5,h9]
     refine ADraw.simple follows (by kernel_rfl) (by kernel_rfl) ?_
     repeat first|refine cg ?_|simp -dsimp[h1,z3,↓e4,h5,h9]
     have hF:=ob hF;obtain⟨v11,e12,hF⟩:=hF
     refine((C.f24 B hB1 hB2 x.n v11 e12)).pgoW (by first|simp[h1,z3,↓e4,h5,h9];done|simp_all) (by simp) ?_
     have hF:=oc hF;obtain⟨c13,hF⟩:=hF
     repeat first|refine cg ?_|simp -dsimp[h1,z3,↓e4,h5,h9]
     have hF:=ob hF;obtain⟨v14,e15,hF⟩:=hF
     refine((C.f24 B hB1 hB2 x.m v14 e15)).pgoW (by first|simp[h1,z3,↓e4,h5,h9];done|simp_all) (by simp) ?_
     have hF:=oc hF;obtain⟨c16,hF⟩:=hF
     have dc16:=c16;simp only[ByteArray.size_append]at dc16
     repeat first|refine cg ?_|simp -dsimp[h1,z3,↓e4,h5,h9]
     refine ADraw.eff [19] [(0,0),(0,0),(0,1),(0,0),(0,0),(0,0),(0,0),(0,0),(0,0),(0,0),(0,1),(0,0),(0,0),(0,1)] [1,1,1,1,1,1,1,1,1,1,1,1,1,1] follows (by kernel_rfl) (by kernel_rfl) (by kernel_rfl) ?_
     repeat first|refine cg ?_|simp -dsimp[h1,z3,↓e4,h5,h9]
     have hF:=ob hF;obtain⟨v17,e18,hF⟩:=hF
     refine((C.f26 B hB1 hB2 x.path v17 e18)).pgoW (by first|simp[h1,z3,↓e4,h5,h9];done|simp_all) (by simp) ?_
     have hF:=oc hF;obtain⟨c19,hF⟩:=hF
     have hF:=oc hF;obtain⟨c20,hF⟩:=hF
     have dc20:=c20;simp only[ByteArray.size_append]at dc20
     have hF:=oc hF;obtain⟨c21,hF⟩:=hF
     have dc21:=c21;simp only[ByteArray.size_append]at dc21
     have hF:=oc hF;obtain⟨c22,hF⟩:=hF
     have dc22:=c22;simp only[ByteArray.size_append]at dc22
     repeat first|refine cg ?_|simp -dsimp[h1,z3,↓e4,h5,h9]
     have hF:=ob hF;obtain⟨v23,e24,hF⟩:=hF
     refine((C.f24 B hB1 hB2 x.to v23 e24)).pgoW (by first|simp[h1,z3,↓e4,h5,h9];done|simp_all) (by simp) ?_
     have hF:=oc hF;obtain⟨c25,hF⟩:=hF
     have dc25:=c25;simp only[ByteArray.size_append]at dc25
     have hF:=oc hF;obtain⟨c26,hF⟩:=hF
     have dc26:=c26;simp only[ByteArray.size_append]at dc26
     have hF:=oc hF;obtain⟨c27,hF⟩:=hF
     have dc27:=c27;simp only[List.length_append,ByteArray.size_append]at dc27
     repeat first|refine cg ?_|simp -dsimp[h1,z3,↓e4,h5,h9]
     refine ECallA.bldW Tryd.bldW ⟨Tryd.f19,Tryd.func19,by kernel_rfl,by kernel_rfl⟩ 0 1 (xs:=out) (by first|rfl|(simp;done)|(simp[h1,z3,↓e4,h5,h9];done)) (by first|rfl|(simp;done)|(simp[h1,z3,↓e4,h5,h9];done)) (by first|omega|simpa using c27|(simp;omega)) (by omega) ?_
     have w28:IntKind.i64.wrap ((i:Int)+1)=(i:Int)+1:=wrap_in (by omega) (by omega)
     repeat first|refine cg ?_|simp -dsimp[h1,z3,↓e4,h5,h9,w28]
     refine Again.go _ ?_ ((ih_f28 (out++bytesI (((((((⟨#[116,101,115,116,32]⟩:ByteArray)++v17)++(⟨#[32]⟩:ByteArray))++((v11++(⟨#[45]⟩:ByteArray))++v14))++(⟨#[32]⟩:ByteArray))++v23)++(⟨#[10]⟩:ByteArray))) (i+1) o hF) _ rfl _ hq)
     exact(Gh.to3 (by simp) (by first|simp -dsimp[h1,z3,↓e4,h5,h9,w28];done|simp_all))
    ·repeat first|refine cg ?_|simp -dsimp[h1,z3,↓e4,h5,h9,q10]
     refine ADraw.eff [19] [(0,0),(0,0),(0,1),(0,0),(0,0),(0,0),(0,0),(0,0),(0,0),(0,0),(0,1),(0,0),(0,0),(0,1)] [1,1,1,1,1,1,1,1,1,1,1,1,1,1] follows (by kernel_rfl) (by kernel_rfl) (by kernel_rfl) ?_
     repeat first|refine cg ?_|simp -dsimp[h1,z3,↓e4,h5,h9,q10]
     have hF:=ob hF;obtain⟨v29,e30,hF⟩:=hF
     refine((C.f26 B hB1 hB2 x.path v29 e30)).pgoW (by first|simp[h1,z3,↓e4,h5,h9,q10];done|simp_all) (by simp) ?_
     have hF:=oc hF;obtain⟨c31,hF⟩:=hF
     have hF:=oc hF;obtain⟨c32,hF⟩:=hF
     have dc32:=c32;simp only[ByteArray.size_append]at dc32
     have hF:=oc hF;obtain⟨c33,hF⟩:=hF
     have dc33:=c33;simp only[ByteArray.size_append]at dc33
     have hF:=oc hF;obtain⟨c34,hF⟩:=hF
     have dc34:=c34;simp only[ByteArray.size_append]at dc34
     repeat first|refine cg ?_|simp -dsimp[h1,z3,↓e4,h5,h9,q10]
     have hF:=ob hF;obtain⟨v35,e36,hF⟩:=hF
     refine((C.f24 B hB1 hB2 x.to v35 e36)).pgoW (by first|simp[h1,z3,↓e4,h5,h9,q10];done|simp_all) (by simp) ?_
     have hF:=oc hF;obtain⟨c37,hF⟩:=hF
     have dc37:=c37;simp only[ByteArray.size_append]at dc37
     have hF:=oc hF;obtain⟨c38,hF⟩:=hF
     have dc38:=c38;simp only[ByteArray.size_append]at dc38
     have hF:=oc hF;obtain⟨c39,hF⟩:=hF
     have dc39:=c39;simp only[List.length_append,ByteArray.size_append]at dc39
     repeat first|refine cg ?_|simp -dsimp[h1,z3,↓e4,h5,h9,q10]
     refine ECallA.bldW Tryd.bldW ⟨Tryd.f19,Tryd.func19,by kernel_rfl,by kernel_rfl⟩ 0 1 (xs:=out) (by first|rfl|(simp;done)|(simp[h1,z3,↓e4,h5,h9,q10];done)) (by first|rfl|(simp;done)|(simp[h1,z3,↓e4,h5,h9,q10];done)) (by first|omega|simpa using c39|(simp;omega)) (by omega) ?_
     have w40:IntKind.i64.wrap ((i:Int)+1)=(i:Int)+1:=wrap_in (by omega) (by omega)
     repeat first|refine cg ?_|simp -dsimp[h1,z3,↓e4,h5,h9,q10,w40]
     refine Again.go _ ?_ ((ih_f28 (out++bytesI (((((((⟨#[116,101,115,116,32]⟩:ByteArray)++v29)++(⟨#[32]⟩:ByteArray))++((⟨#[35]⟩:ByteArray)++v))++(⟨#[32]⟩:ByteArray))++v35)++(⟨#[10]⟩:ByteArray))) (i+1) o hF) _ rfl _ hq)
     exact(Gh.to3 (by simp) (by first|simp -dsimp[h1,z3,↓e4,h5,h9,q10,w40];done|simp_all))
   ·repeat first|refine cg ?_|simp -dsimp[h1,z3,↓e4,h5,q6]
    revert hF;refine abr.sp ?_ ?_<;>intro h41 q42 hF
    ·repeat first|refine cg ?_|simp -dsimp[h1,z3,↓e4,h5,q6,h41]
     have hF:=ob hF;obtain⟨v43,e44,hF⟩:=hF
     refine((C.f24 B hB1 hB2 x.clause v43 e44)).goW (by first|simp[h1,z3,↓e4,h5,q6,h41];done|simp_all) (by simp) ?_
     have hF:=oc hF;obtain⟨c45,hF⟩:=hF
     have hF:=oc hF;obtain⟨c46,hF⟩:=hF
     have dc46:=c46;simp only[List.length_append,ByteArray.size_append]at dc46
     repeat first|refine cg ?_|simp -dsimp[h1,z3,↓e4,h5,q6,h41]
     refine ACall.bldW Tryd.bldW ⟨Tryd.f19,Tryd.func19,by kernel_rfl,by kernel_rfl⟩ 0 1 (xs:=out) (by first|rfl|(simp;done)|(simp[h1,z3,↓e4,h5,q6,h41];done)) (by first|rfl|(simp;done)|(simp[h1,z3,↓e4,h5,q6,h41];done)) (by first|omega|simpa using c46|(simp;omega)) (by omega) ?_
     repeat first|refine cg ?_|simp -dsimp[h1,z3,↓e4,h5,q6,h41]
     have hF:=ob hF;obtain⟨o',ho63,hF⟩:=hF
     refine ALoop.goU _ ?_ (((CC.f27 B hB1 hB2 list i x) (out++bytesI ((⟨#[116,97,107,101,32]⟩:ByteArray)++v43)) 0 o' ho63) _ rfl _ ?_)
     ·exact(Gh.to3 (by simp) (by first|simp -dsimp[h1,z3,↓e4,h5,q6,h41];done|simp_all))
     repeat first|refine cg ?_|simp -dsimp
     have hF:=ob hF;obtain⟨v64,e65,hF⟩:=hF
     refine((C.f24 B hB1 hB2 x.to v64 e65)).goW (by simp) (by simp) ?_
     have hF:=oc hF;obtain⟨c66,hF⟩:=hF
     have hF:=oc hF;obtain⟨c67,hF⟩:=hF
     have dc67:=c67;simp only[ByteArray.size_append]at dc67
     have hF:=oc hF;obtain⟨c68,hF⟩:=hF
     have dc68:=c68;simp only[List.length_append,ByteArray.size_append]at dc68
     repeat first|refine cg ?_|simp -dsimp
     refine ACall.bldW Tryd.bldW ⟨Tryd.f19,Tryd.func19,by kernel_rfl,by kernel_rfl⟩ 0 1 (xs:=o') (by first|rfl|simp) (by first|rfl|simp) (by first|omega|simpa using c68|(simp;omega)) (by omega) ?_
     have hF:=oc hF;obtain⟨c69,hF⟩:=hF
     have w70:IntKind.i64.wrap ((i:Int)+1)=(i:Int)+1:=wrap_in (by omega) (by omega)
     repeat first|refine cg ?_|simp -dsimp[w70]
     refine Again.go _ ?_ ((ih_f28 (o'++bytesI (((⟨#[32]⟩:ByteArray)++v64)++(⟨#[10]⟩:ByteArray))) (i+1) o hF) _ rfl _ hq)
     exact(Gh.to3 (by simp) (by first|simp -dsimp[w70];done|simp_all))
    ·have hF:=oc hF;obtain⟨c71,hF⟩:=hF
     skip
     repeat first|refine cg ?_|simp -dsimp[h1,z3,↓e4,h5,q6,h41,q42]
     refine ACall.bldW Tryd.bldW ⟨Tryd.f19,Tryd.func19,by kernel_rfl,by kernel_rfl⟩ 0 1 (xs:=out) (by first|rfl|(simp;done)|(simp[h1,z3,↓e4,h5,q6,h41,q42];done)) (by first|rfl|(simp;done)|(simp[h1,z3,↓e4,h5,q6,h41,q42];done)) (by first|omega|simpa using c71|(simp;omega)) (by omega) ?_
     have w72:IntKind.i64.wrap ((i:Int)+1)=(i:Int)+1:=wrap_in (by omega) (by omega)
     repeat first|refine cg ?_|simp -dsimp[h1,z3,↓e4,h5,q6,h41,q42,w72]
     refine Again.go _ ?_ ((ih_f28 (out++bytesI (⟨#[102,97,105,108,10]⟩:ByteArray)) (i+1) o hF) _ rfl _ hq)
     exact(Gh.to3 (by simp) (by first|simp -dsimp[h1,z3,↓e4,h5,q6,h41,q42,w72];done|simp_all))
  ·have z3:¬((i:Int)<(list.length:Int)):=auz
   cases hF
   repeat first|refine cg ?_|simp -dsimp[h1,q2,z3]
   refine Leave.go _ (Gh.to3 (by simp) (by first|simp -dsimp[h1,q2,z3];done|simp_all)) hq
theorem C.f29 (list:List Step)(r:ByteArray)(hF:F.f29 list=some r):PureCall Tryd.prog B 8 [.arr (List.map Step.c list)] (.lit (.string r)):=by
 unfold F.f29 at hF
 refine PureCall.enterLe Tryd.func8 (by kernel_rfl) rfl Tryd.ntmps8 (by simp) (by simp) ?_
 repeat first|refine cg ?_|simp -dsimp
 have hF:=ob hF;obtain⟨o'74,ho73,hF⟩:=hF
 refine ALoop.goU ⟨[(3,.ptr 0 0),(9,.arr (List.map Step.c list)),(10,.lit (.int .i64 (list.length:Int))),(11,.lit (.int .i64 0))],[.tcells (some 49) [.junk,.own 1 (List.length (α:=Int) [])],.telems (some 5) 1 (List.map cU [])]⟩ (by refine Gh.trans (Gh.nilCellT 49 5 0 1 1 (by simp -dsimp;rfl) (by simp -dsimp)) ?_;exact(Gh.to3 (by simp) (by simp -dsimp))) ?_
 refine((CC.f28 B hB1 hB2 list) [] 0 o'74 ho73) _ rfl _ ?_
 have hF:=oc hF;obtain⟨c75,hF⟩:=hF
 repeat first|refine cg ?_|simp -dsimp
 refine ACall.bldS Tryd.lays169 Tryd.Builder_Extra_169 (f:=21) (T:=49) (E:=5) (by rfl) (by rfl) (by rfl) ⟨Tryd.f21,Tryd.func21,by kernel_rfl,by kernel_rfl⟩ 0 1 (xs:=o'74) (by first|rfl|simp) (by first|rfl|simp) c75.1 c75.2 ?_
 cases hF
 repeat first|refine cg ?_|simp -dsimp
 all_goals(try first|omega|rfl)
theorem CC.f30 (a:List Int)(b:List Int):(∀(i:Nat) (o:Lo Bool Unit),F.f30 a b i=some o→∀(c:Code),navO [1,1,0,1,0,0] (bodyOf Tryd.f38)=some c→∀(Q:Exit→ASt→Prop),o.post (fun r=>∀st,Post Tryd.prog Tryd.f38 (fun r' _=>r'.le (.lit (.bool r))) .ret st→Q .ret st) (fun s=>Q (.exit 0) ⟨[],[]⟩)→ALoopU Tryd.prog B 0 26 (hold c .mk) ⟨[(0,.arr (List.map cI a)),(1,.arr (List.map cI b)),(5,.lit (.int .i64 (i:Int)))],[]⟩ (hold Q .mk)):=by
 refine F.f30.partial_correctness a b
  _
  ?_
 ·intro _f_f30 ih_f30 i o hF
  intro c hc Q hq
  obtain rfl:c=_:=navEq hc rfl
  refine ALoopU.know fun hk hs=> ?_
  have b0:=hk 0
  simp -dsimp at b0
  have b1:=hk 1
  simp -dsimp at b1
  clear hk hs
  refine ALoopU.enter ?_
  repeat first|refine cg ?_|simp -dsimp
  revert hF;refine abr.sp ?_ ?_<;>intro h4 q5 hF
  ·have z6:((i:Int)<(a.length:Int)):=auz
   repeat first|refine cg ?_|simp -dsimp[h4,z6]
   refine ADraw.simple follows (by kernel_rfl) (by kernel_rfl) ?_
   have hF:=ob hF;obtain⟨x,e7,hF⟩:=hF
   have le7:=lt_of_get e7
   have hF:=ob hF;obtain⟨x8,e9,hF⟩:=hF
   have le9:=lt_of_get e9
   repeat first|refine cg ?_|simp -dsimp[h4,z6,↓e7,↓e9]
   revert hF;refine abr.ns ?_ ?_<;>intro h10 q11 hF
   ·cases hF
    repeat first|refine cg ?_|simp -dsimp[h4,z6,↓e7,↓e9,h10,q11]
    refine Leave.go _ (Gh.refl _) (hq _ ?_)
    repeat first|refine cg ?_|simp -dsimp[h4,z6,↓e7,↓e9,h10,q11]
   ·have w12:IntKind.i64.wrap ((i:Int)+1)=(i:Int)+1:=wrap_in (by omega) (by omega)
    repeat first|refine cg ?_|simp -dsimp[h4,z6,↓e7,↓e9,h10,q11,w12]
    refine Again.go _ ?_ ((ih_f30 (i+1) o hF) _ rfl _ hq)
    exact(Gh.to3 (by simp) (by first|simp -dsimp[h4,z6,↓e7,↓e9,h10,q11,w12];done|simp_all))
  ·have z6:¬((i:Int)<(a.length:Int)):=auz
   cases hF
   repeat first|refine cg ?_|simp -dsimp[h4,q5,z6]
   refine Leave.go _ (Gh.to3 (by simp) (by first|simp -dsimp[h4,q5,z6];done|simp_all)) hq
theorem C.f31 (a:List Int)(b:List Int)(r:Bool)(hF:F.f31 a b=some r):PureCall Tryd.prog B 38 [.arr (List.map cI a),.arr (List.map cI b)] (.lit (.bool r)):=by
 unfold F.f31 at hF
 refine PureCall.enterLe Tryd.func38 (by kernel_rfl) rfl Tryd.ntmps38 (by simp) (by simp) ?_
 repeat first|refine cg ?_|simp -dsimp
 revert hF;refine abr.ns ?_ ?_<;>intro h1 q2 hF
 ·have z3:¬((a.length:Int)=(b.length:Int)):=auz
  cases hF
  repeat first|refine cg ?_|simp -dsimp[h1,q2,z3]
  all_goals(try first|omega|rfl)
 ·have z3:((a.length:Int)=(b.length:Int)):=auz
  repeat first|refine cg ?_|simp -dsimp[h1,q2,z3]
  have hF:=ob hF;obtain⟨o',ho13,hF⟩:=hF
  refine ALoop.goU _ ?_ (((CC.f30 B hB1 hB2 a b) 0 o' ho13) _ rfl _ ?_)
  ·exact(Gh.to3 (by simp) (by first|simp -dsimp[h1,q2,z3];done|simp_all))
  rcases o' with r0|sx
  ·dsimp only at hF
   cases hF
   intro st h
   simpa using h
  ·dsimp only at hF
   cases hF
   repeat first|refine cg ?_|simp -dsimp
   all_goals(try first|omega|rfl)
theorem C.f32 (a:PathBind)(b:PathBind)(r:Bool)(hF:F.f32 a b=some r):PureCall Tryd.prog B 51 [.agg [.lit (.int .i64 a.var),.arr (List.map cI a.path)],.agg [.lit (.int .i64 b.var),.arr (List.map cI b.path)]] (.lit (.bool r)):=by
 unfold F.f32 at hF
 refine PureCall.enterLe Tryd.func51 (by kernel_rfl) rfl Tryd.ntmps51 (by simp) (by simp) ?_
 repeat first|refine cg ?_|simp -dsimp
 revert hF;refine abr.ns ?_ ?_<;>intro h1 q2 hF
 ·cases hF
  repeat first|refine cg ?_|simp -dsimp[h1,q2]
  all_goals(try first|omega|rfl)
 ·repeat first|refine cg ?_|simp -dsimp[h1,q2]
  have hF:=ob hF;obtain⟨v,e3,hF⟩:=hF
  refine((C.f31 B hB1 hB2 a.path b.path v e3)).goW (by first|simp[h1,q2];done|simp_all) (by simp) ?_
  repeat first|refine cg ?_|simp -dsimp[h1,q2]
  revert hF;refine abr.ns (fun h4 q5 hF=> ?_) (fun h4 q5 hF=> ?_)
  ·cases hF
   repeat first|refine cg ?_|simp -dsimp[h1,q2,h4,q5]
   all_goals(try first|omega|rfl)
  ·cases hF
   repeat first|refine cg ?_|simp -dsimp[h1,q2,h4,q5]
   all_goals(try first|omega|rfl)
theorem CC.f33 (a:List PathBind)(b:List PathBind):(∀(i:Nat) (o:Lo Bool Unit),F.f33 a b i=some o→∀(c:Code),navO [1,1,0,1,0,0] (bodyOf Tryd.f39)=some c→∀(Q:Exit→ASt→Prop),o.post (fun r=>∀st,Post Tryd.prog Tryd.f39 (fun r' _=>r'.le (.lit (.bool r))) .ret st→Q .ret st) (fun s=>Q (.exit 0) ⟨[],[]⟩)→ALoopU Tryd.prog B 0 27 (hold c .mk) ⟨[(0,.arr (List.map PathBind.c a)),(1,.arr (List.map PathBind.c b)),(5,.lit (.int .i64 (i:Int)))],[]⟩ (hold Q .mk)):=by
 refine F.f33.partial_correctness a b
  _
  ?_
 ·intro _f_f33 ih_f33 i o hF
  intro c hc Q hq
  obtain rfl:c=_:=navEq hc rfl
  refine ALoopU.know fun hk hs=> ?_
  have b0:=hk 0
  simp -dsimp at b0
  have b1:=hk 1
  simp -dsimp at b1
  clear hk hs
  refine ALoopU.enter ?_
  repeat first|refine cg ?_|simp -dsimp
  revert hF;refine abr.sp ?_ ?_<;>intro h4 q5 hF
  ·have z6:((i:Int)<(a.length:Int)):=auz
   repeat first|refine cg ?_|simp -dsimp[h4,z6]
   refine ADraw.simple follows (by kernel_rfl) (by kernel_rfl) ?_
   have hF:=ob hF;obtain⟨x,e7,hF⟩:=hF
   have le7:=lt_of_get e7
   have hF:=ob hF;obtain⟨x8,e9,hF⟩:=hF
   have le9:=lt_of_get e9
   repeat first|refine cg ?_|simp -dsimp[h4,z6,↓e7,↓e9]
   have hF:=ob hF;obtain⟨v,e10,hF⟩:=hF
   refine((C.f32 B hB1 hB2 x x8 v e10)).pgoW (by first|simp[h4,z6,↓e7,↓e9];done|simp_all) (by simp) ?_
   repeat first|refine cg ?_|simp -dsimp[h4,z6,↓e7,↓e9]
   revert hF;refine abr.ns (fun h11 q12 hF=> ?_) (fun h11 q12 hF=> ?_)
   ·cases hF
    repeat first|refine cg ?_|simp -dsimp[h4,z6,↓e7,↓e9,h11,q12]
    refine Leave.go _ (Gh.refl _) (hq _ ?_)
    repeat first|refine cg ?_|simp -dsimp[h4,z6,↓e7,↓e9,h11,q12]
   ·have w13:IntKind.i64.wrap ((i:Int)+1)=(i:Int)+1:=wrap_in (by omega) (by omega)
    repeat first|refine cg ?_|simp -dsimp[h4,z6,↓e7,↓e9,h11,q12,w13]
    refine Again.go _ ?_ ((ih_f33 (i+1) o hF) _ rfl _ hq)
    exact(Gh.to3 (by simp) (by first|simp -dsimp[h4,z6,↓e7,↓e9,h11,q12,w13];done|simp_all))
  ·have z6:¬((i:Int)<(a.length:Int)):=auz
   cases hF
   repeat first|refine cg ?_|simp -dsimp[h4,q5,z6]
   refine Leave.go _ (Gh.to3 (by simp) (by first|simp -dsimp[h4,q5,z6];done|simp_all)) hq
theorem C.f34 (a:List PathBind)(b:List PathBind)(r:Bool)(hF:F.f34 a b=some r):PureCall Tryd.prog B 39 [.arr (List.map PathBind.c a),.arr (List.map PathBind.c b)] (.lit (.bool r)):=by
 unfold F.f34 at hF
 refine PureCall.enterLe Tryd.func39 (by kernel_rfl) rfl Tryd.ntmps39 (by simp) (by simp) ?_
 repeat first|refine cg ?_|simp -dsimp
 revert hF;refine abr.ns ?_ ?_<;>intro h1 q2 hF
 ·have z3:¬((a.length:Int)=(b.length:Int)):=auz
  cases hF
  repeat first|refine cg ?_|simp -dsimp[h1,q2,z3]
  all_goals(try first|omega|rfl)
 ·have z3:((a.length:Int)=(b.length:Int)):=auz
  repeat first|refine cg ?_|simp -dsimp[h1,q2,z3]
  have hF:=ob hF;obtain⟨o',ho14,hF⟩:=hF
  refine ALoop.goU _ ?_ (((CC.f33 B hB1 hB2 a b) 0 o' ho14) _ rfl _ ?_)
  ·exact(Gh.to3 (by simp) (by first|simp -dsimp[h1,q2,z3];done|simp_all))
  rcases o' with r0|sx
  ·dsimp only at hF
   cases hF
   intro st h
   simpa using h
  ·dsimp only at hF
   cases hF
   repeat first|refine cg ?_|simp -dsimp
   all_goals(try first|omega|rfl)
theorem C.f35 (a:Step)(b:Step)(r:Bool)(hF:F.f35 a b=some r):PureCall Tryd.prog B 22 [.agg [.lit (.int .i64 a.op),.arr (List.map cI a.path),.lit (.int .i64 a.ctor),.lit (.int .i64 a.n),.lit (.int .i64 a.m),.lit (.int .i64 a.clause),.arr (List.map PathBind.c a.binds),.lit (.int .i64 a.to)],.agg [.lit (.int .i64 b.op),.arr (List.map cI b.path),.lit (.int .i64 b.ctor),.lit (.int .i64 b.n),.lit (.int .i64 b.m),.lit (.int .i64 b.clause),.arr (List.map PathBind.c b.binds),.lit (.int .i64 b.to)]] (.lit (.bool r)):=by
 unfold F.f35 at hF
 refine PureCall.enterLe Tryd.func22 (by kernel_rfl) rfl Tryd.ntmps22 (by simp) (by simp) ?_
 repeat first|refine cg ?_|simp -dsimp
 revert hF;refine abr.ns ?_ ?_<;>intro h1 q2 hF
 ·cases hF
  repeat first|refine cg ?_|simp -dsimp[h1,q2]
  all_goals(try first|omega|rfl)
 ·repeat first|refine cg ?_|simp -dsimp[h1,q2]
  have hF:=ob hF;obtain⟨v,e3,hF⟩:=hF
  refine((C.f31 B hB1 hB2 a.path b.path v e3)).goW (by first|simp[h1,q2];done|simp_all) (by simp) ?_
  repeat first|refine cg ?_|simp -dsimp[h1,q2]
  revert hF;refine abr.ns (fun h4 q5 hF=> ?_) (fun h4 q5 hF=> ?_)
  ·cases hF
   repeat first|refine cg ?_|simp -dsimp[h1,q2,h4,q5]
   all_goals(try first|omega|rfl)
  ·repeat first|refine cg ?_|simp -dsimp[h1,q2,h4,q5]
   revert hF;refine abr.ns ?_ ?_<;>intro h6 q7 hF
   ·cases hF
    repeat first|refine cg ?_|simp -dsimp[h1,q2,h4,q5,h6,q7]
    all_goals(try first|omega|rfl)
   ·repeat first|refine cg ?_|simp -dsimp[h1,q2,h4,q5,h6,q7]
    revert hF;refine abr.ns ?_ ?_<;>intro h8 q9 hF
    ·cases hF
     repeat first|refine cg ?_|simp -dsimp[h1,q2,h4,q5,h6,q7,h8,q9]
     all_goals(try first|omega|rfl)
    ·repeat first|refine cg ?_|simp -dsimp[h1,q2,h4,q5,h6,q7,h8,q9]
     revert hF;refine abr.ns ?_ ?_<;>intro h10 q11 hF
     ·cases hF
      repeat first|refine cg ?_|simp -dsimp[h1,q2,h4,q5,h6,q7,h8,q9,h10,q11]
      all_goals(try first|omega|rfl)
     ·repeat first|refine cg ?_|simp -dsimp[h1,q2,h4,q5,h6,q7,h8,q9,h10,q11]
      revert hF;refine abr.ns ?_ ?_<;>intro h12 q13 hF
      ·cases hF
       repeat first|refine cg ?_|simp -dsimp[h1,q2,h4,q5,h6,q7,h8,q9,h10,q11,h12,q13]
       all_goals(try first|omega|rfl)
      ·repeat first|refine cg ?_|simp -dsimp[h1,q2,h4,q5,h6,q7,h8,q9,h10,q11,h12,q13]
       have hF:=ob hF;obtain⟨v14,e15,hF⟩:=hF
       refine((C.f34 B hB1 hB2 a.binds b.binds v14 e15)).goW (by first|simp[h1,q2,h4,q5,h6,q7,h8,q9,h10,q11,h12,q13];done|simp_all) (by simp) ?_
       repeat first|refine cg ?_|simp -dsimp[h1,q2,h4,q5,h6,q7,h8,q9,h10,q11,h12,q13]
       revert hF;refine abr.ns (fun h16 q17 hF=> ?_) (fun h16 q17 hF=> ?_)
       ·cases hF
        repeat first|refine cg ?_|simp -dsimp[h1,q2,h4,q5,h6,q7,h8,q9,h10,q11,h12,q13,h16,q17]
        all_goals(try first|omega|rfl)
       ·repeat first|refine cg ?_|simp -dsimp[h1,q2,h4,q5,h6,q7,h8,q9,h10,q11,h12,q13,h16,q17]
        revert hF;refine abr.ns ?_ ?_<;>intro h18 q19 hF
        ·cases hF
         repeat first|refine cg ?_|simp -dsimp[h1,q2,h4,q5,h6,q7,h8,q9,h10,q11,h12,q13,h16,q17,h18,q19]
         all_goals(try first|omega|rfl)
        ·cases hF
         repeat first|refine cg ?_|simp -dsimp[h1,q2,h4,q5,h6,q7,h8,q9,h10,q11,h12,q13,h16,q17,h18,q19]
         all_goals(try first|omega|rfl)
theorem CC.f36 (a:List Step)(b:List Step):(∀(i:Nat) (o:Lo Bool Unit),F.f36 a b i=some o→∀(c:Code),navO [1,1,0,1,0,0] (bodyOf Tryd.f9)=some c→∀(Q:Exit→ASt→Prop),o.post (fun r=>∀st,Post Tryd.prog Tryd.f9 (fun r' _=>r'.le (.lit (.bool r))) .ret st→Q .ret st) (fun s=>Q (.exit 0) ⟨[],[]⟩)→ALoopU Tryd.prog B 0 27 (hold c .mk) ⟨[(0,.arr (List.map Step.c a)),(1,.arr (List.map Step.c b)),(5,.lit (.int .i64 (i:Int)))],[]⟩ (hold Q .mk)):=by
 refine F.f36.partial_correctness a b
  _
  ?_
 ·intro _f_f36 ih_f36 i o hF
  intro c hc Q hq
  obtain rfl:c=_:=navEq hc rfl
  refine ALoopU.know fun hk hs=> ?_
  have b0:=hk 0
  simp -dsimp at b0
  have b1:=hk 1
  simp -dsimp at b1
  clear hk hs
  refine ALoopU.enter ?_
  repeat first|refine cg ?_|simp -dsimp
  revert hF;refine abr.sp ?_ ?_<;>intro h4 q5 hF
  ·have z6:((i:Int)<(a.length:Int)):=auz
   repeat first|refine cg ?_|simp -dsimp[h4,z6]
   refine ADraw.simple follows (by kernel_rfl) (by kernel_rfl) ?_
   have hF:=ob hF;obtain⟨x,e7,hF⟩:=hF
   have le7:=lt_of_get e7
   have hF:=ob hF;obtain⟨x8,e9,hF⟩:=hF
   have le9:=lt_of_get e9
   repeat first|refine cg ?_|simp -dsimp[h4,z6,↓e7,↓e9]
   have hF:=ob hF;obtain⟨v,e10,hF⟩:=hF
   refine((C.f35 B hB1 hB2 x x8 v e10)).pgoW (by first|simp[h4,z6,↓e7,↓e9];done|simp_all) (by simp) ?_
   repeat first|refine cg ?_|simp -dsimp[h4,z6,↓e7,↓e9]
   revert hF;refine abr.ns (fun h11 q12 hF=> ?_) (fun h11 q12 hF=> ?_)
   ·cases hF
    repeat first|refine cg ?_|simp -dsimp[h4,z6,↓e7,↓e9,h11,q12]
    refine Leave.go _ (Gh.refl _) (hq _ ?_)
    repeat first|refine cg ?_|simp -dsimp[h4,z6,↓e7,↓e9,h11,q12]
   ·have w13:IntKind.i64.wrap ((i:Int)+1)=(i:Int)+1:=wrap_in (by omega) (by omega)
    repeat first|refine cg ?_|simp -dsimp[h4,z6,↓e7,↓e9,h11,q12,w13]
    refine Again.go _ ?_ ((ih_f36 (i+1) o hF) _ rfl _ hq)
    exact(Gh.to3 (by simp) (by first|simp -dsimp[h4,z6,↓e7,↓e9,h11,q12,w13];done|simp_all))
  ·have z6:¬((i:Int)<(a.length:Int)):=auz
   cases hF
   repeat first|refine cg ?_|simp -dsimp[h4,q5,z6]
   refine Leave.go _ (Gh.to3 (by simp) (by first|simp -dsimp[h4,q5,z6];done|simp_all)) hq
theorem C.f37 (a:List Step)(b:List Step)(r:Bool)(hF:F.f37 a b=some r):PureCall Tryd.prog B 9 [.arr (List.map Step.c a),.arr (List.map Step.c b)] (.lit (.bool r)):=by
 unfold F.f37 at hF
 refine PureCall.enterLe Tryd.func9 (by kernel_rfl) rfl Tryd.ntmps9 (by simp) (by simp) ?_
 repeat first|refine cg ?_|simp -dsimp
 revert hF;refine abr.ns ?_ ?_<;>intro h1 q2 hF
 ·have z3:¬((a.length:Int)=(b.length:Int)):=auz
  cases hF
  repeat first|refine cg ?_|simp -dsimp[h1,q2,z3]
  all_goals(try first|omega|rfl)
 ·have z3:((a.length:Int)=(b.length:Int)):=auz
  repeat first|refine cg ?_|simp -dsimp[h1,q2,z3]
  have hF:=ob hF;obtain⟨o',ho14,hF⟩:=hF
  refine ALoop.goU _ ?_ (((CC.f36 B hB1 hB2 a b) 0 o' ho14) _ rfl _ ?_)
  ·exact(Gh.to3 (by simp) (by first|simp -dsimp[h1,q2,z3];done|simp_all))
  rcases o' with r0|sx
  ·dsimp only at hF
   cases hF
   intro st h
   simpa using h
  ·dsimp only at hF
   cases hF
   repeat first|refine cg ?_|simp -dsimp
   all_goals(try first|omega|rfl)
theorem C.f38 (aList:List Step)(r:Bool)(hF:F.f38 aList=some r):PureCall Tryd.prog B 3 [.arr (List.map Step.c aList)] (.lit (.bool r)):=by
 unfold F.f38 at hF
 refine PureCall.enterLe Tryd.func3 (by kernel_rfl) rfl Tryd.ntmps3 (by simp) (by simp) ?_
 repeat first|refine cg ?_|simp -dsimp
 have hF:=ob hF;obtain⟨v,e1,hF⟩:=hF
 refine((C.f6 B hB1 hB2 aList 1048576 v e1)).goW (by simp) (by simp) ?_
 repeat first|refine cg ?_|simp -dsimp
 revert hF;refine abr.sp ?_ ?_<;>intro h2 q3 hF
 ·cases hF
  repeat first|refine cg ?_|simp -dsimp[h2]
  all_goals(try first|omega|rfl)
 ·repeat first|refine cg ?_|simp -dsimp[h2,q3]
  have hF:=ob hF;obtain⟨v4,e5,hF⟩:=hF
  refine((C.f14 B hB1 hB2 aList v4 e5)).goW (by first|simp[h2,q3];done|simp_all) (by simp) ?_
  repeat first|refine cg ?_|simp -dsimp[h2,q3]
  have hF:=ob hF;obtain⟨v6,e7,hF⟩:=hF
  refine((C.f23 B hB1 hB2 v4 v6 e7)).goW (by first|simp[h2,q3];done|simp_all) (by simp) ?_
  repeat first|refine cg ?_|simp -dsimp[h2,q3]
  have hF:=ob hF;obtain⟨v8,e9,hF⟩:=hF
  refine((C.f14 B hB1 hB2 aList v8 e9)).goW (by first|simp[h2,q3];done|simp_all) (by simp) ?_
  repeat first|refine cg ?_|simp -dsimp[h2,q3]
  have hF:=ob hF;obtain⟨v10,e11,hF⟩:=hF
  refine((C.f29 B hB1 hB2 v8 v10 e11)).goW (by first|simp[h2,q3];done|simp_all) (by simp) ?_
  repeat first|refine cg ?_|simp -dsimp[h2,q3]
  revert hF;refine abr.ns ?_ ?_<;>intro h12 q13 hF
  ·cases hF
   repeat first|refine cg ?_|simp -dsimp[h2,q3,h12,q13]
   all_goals(try first|omega|rfl)
  ·repeat first|refine cg ?_|simp -dsimp[h2,q3,h12,q13]
   have hF:=ob hF;obtain⟨v14,e15,hF⟩:=hF
   refine((C.f14 B hB1 hB2 aList v14 e15)).goW (by first|simp[h2,q3,h12,q13];done|simp_all) (by simp) ?_
   repeat first|refine cg ?_|simp -dsimp[h2,q3,h12,q13]
   have hF:=ob hF;obtain⟨v16,e17,hF⟩:=hF
   refine((C.f37 B hB1 hB2 v8 v14 v16 e17)).goW (by first|simp[h2,q3,h12,q13];done|simp_all) (by simp) ?_
   repeat first|refine cg ?_|simp -dsimp[h2,q3,h12,q13]
   revert hF;refine abr.ns (fun h18 q19 hF=> ?_) (fun h18 q19 hF=> ?_)
   ·cases hF
    repeat first|refine cg ?_|simp -dsimp[h2,q3,h12,q13,h18,q19]
    all_goals(try first|omega|rfl)
   ·cases hF
    repeat first|refine cg ?_|simp -dsimp[h2,q3,h12,q13,h18,q19]
    all_goals(try first|omega|rfl)
end Go.Proofs.YtnbcpgpmeeminaaDoor
