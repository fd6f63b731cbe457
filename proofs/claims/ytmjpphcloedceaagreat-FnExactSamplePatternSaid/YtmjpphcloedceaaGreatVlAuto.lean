/- Part. -/
import Derived.Test.YtmjpphcloedceaaGreatVlG
import Derived.Test.YtmjpphcloedceaaGreatVlDraw3
set_option linter.all false
namespace Go.Vl
open Go Go.RowKit
section
variable {P : Program} {B nb N : Nat}
variable {f:FuncId}{c:Code}{args:List AV}
theorem PureCall.inLe {fn:Func}{r:AV}(hf : P.funcs[f]? = some fn)(hb : fn.body = some c)(hN : fn.ntmps = N)(h : awp P B 0 N c ⟨ZBR 0 args, []⟩ (hold (ZAR P fn fun r' _ => r'.le r) .mk))(hn:(fn.name== "runtime.NumGoroutine")=false:=by kernel_rfl)(hargs:args.length<=N:=by simp)(hr:r.pure:=by simp):PureCall P B f args r:=PureCall.enterLe hf hn hb hN hargs hr h
theorem MutCall.inn {fn:Func}{cs:List AV}{r:AV}{cs':List AV}(hf : P.funcs[f]? = some fn)(hb : fn.body = some c)(hN : fn.ntmps = N)(h : awp P B 1 N c ⟨ZBR 0 args, [.cells cs]⟩ (hold (ZAR P fn fun r' σ' => r'.le r /\ ZBP σ' cs') .mk))(hn:(fn.name== "runtime.NumGoroutine")=false:=by kernel_rfl)(hargs:args.length<=N:=by simp)(hr:r.pure:=by simp)(hp:AV.pure.pures cs:=by simp)(hp':AV.pure.pures cs':=by simp):MutCall P B f cs args r cs':=MutCall.enter hf hn hb hN hargs hr hp hp' h
variable {ops:Array Oper}{fr:Frm}{σ:ZE}{K:ASt -> Prop}
theorem ADraw.effI {b:Box ops}{b':Box K}(fs : List FuncId)(tab : List (Nat × Nat))(xs : List Nat)(hm : P.follows .mixedOrders = true)(h : aL fs P B N (hold ops .mk) ops.toList xs tab fr [σ] [] [] (hold (fun fr' σ' => K ⟨fr', σ'⟩) .mk))(hd:ZAZ fs ops=true:=by kernel_rfl)(ht:ZIa fs ops tab=true:=by kernel_rfl)(hx:ZBO fs ops tab (xs.map (· ==1))=true:=by kernel_rfl):ADraw P B nb N (hold ops b) ⟨fr,σ⟩ (hold K b'):=ADraw.eff fs tab xs hm hd ht hx h
theorem ADraw.simI {b:Box ops}{b':Box K}(hm : P.follows .mixedOrders = true)(h : aP P B N (hold ops .mk) ops.toList fr σ (hold (fun fr' => K ⟨fr', σ⟩) .mk))(hd:ZAZ [] ops=true:=by kernel_rfl)(he:effCnt [] ops.toList=0:=by kernel_rfl):ADraw P B nb N (hold ops b) ⟨fr,σ⟩ (hold K b'):=ADraw.simple hm hd he h
variable {fr':Frm}{s:ZE}
theorem Gh.is (hn:nb<=s.length:=by simp)(h:ZGD σ s/\Zu s.length s/\ZKw s.length fr fr':=by first|(simp -dsimp;done)|simp_all):Gh B nb N ⟨fr,σ⟩ ⟨fr',s⟩:=Gh.to3 hn h
theorem Leave.is {e:Exit}{Q:Exit->ASt->Prop}{bQ:Box Q}(h:Q e ⟨fr',s⟩)(hn:nb<=s.length:=by simp)(hg:ZGD σ s/\Zu s.length s/\ZKw s.length fr fr':=by first|(simp -dsimp;done)|simp_all):Leave B nb N (hold Q bQ) e ⟨fr,σ⟩:=⟨_,Gh.to3 hn hg,h⟩
variable {Q:Exit -> ASt -> Prop}{bQ:Box Q}
theorem Again.is {bc:Box c}(h : ALoopU P B nb N (hold c .mk) ⟨fr', s⟩ (hold Q .mk))(hn : nb <= s.length := by simp)(hg : ZGD σ s /\ Zu s.length s /\ ZKw s.length fr fr' := by first | (simp -dsimp; done) | simp_all) :
    Again P B nb N (hold c bc) (hold Q bQ) ⟨fr,σ⟩:=⟨_,Gh.to3 hn hg,h⟩
theorem ALoop.is {bc:Box c}(h : ALoopU P B nb N (hold c .mk) ⟨fr', s⟩ (hold Q .mk))(hn : nb <= s.length := by simp)(hg : ZGD σ s /\ Zu s.length s /\ ZKw s.length fr fr' := by first | (simp -dsimp; done) | simp_all) :
    ALoop P B nb N (hold c bc) ⟨fr,σ⟩ (hold Q bQ):=ALoop.goU _ (Gh.to3 hn hg) h
theorem PureCall.goI {args':List AV}{r:AV}(h:PureCall P B f args' r){K:AV->ZE->Prop}{b:Box K}(hK:K r σ)(hl:AV.le.les args args':=by first|(simp;done)|simp_all)(hp:ZEf args:=by simp):ACall P B f args σ (hold K b):=h.goW hl hp hK
theorem ZP {x : Option Code} {c0 : Code} (hx : x = some c0) {H : (Exit -> ASt -> Prop) -> Prop} {st : ASt} (h : ∀ Q, H Q -> (∀ i, (lk st.fr i).bnd B) -> (∀ (l : Nat) b, st.σ[l]? = some b -> b.bnd B) -> ALoopU P B nb N (hold c0 .mk) st (hold Q .mk)) :
    ∀c,x=some c->∀Q,H Q->ALoopU P B nb N (hold c .mk) st (hold Q .mk):=fun c hc Q hq=>by
  rw[hx]at hc;cases hc
  exact ALoopU.know fun hk hs=>h Q hq hk hs
def KZ (q p:Prop):Prop:=q->p
variable {p:Prop}
theorem KZ.id :KZ p p:=fun h=>h
variable {q:Prop}
theorem chk.gk {r:Prop}{b:Box q}(h':KZ r q)(h:p:=by first|omega|assumption|exact ZHP (by assumption)|rfl|(simp;done)|(simp;omega)|(simp[*];done)|(simp_all;done)|(simp_all;omega)):KZ r (chk p (hold q b)):=fun k=>⟨h,h' k⟩
theorem kz (h:q)(e:KZ q p:=by(repeat(first|refine chk.gk ?_|simp -dsimp));exact KZ.id):p:=e h
theorem ky (h:q)(e:KZ q p:=by(repeat(first|refine chk.gk ?_|simp -dsimp[*]));exact KZ.id):p:=e h
structure Hdq (q:Prop):Prop where
  get:q
theorem kx0 (h':q)(e':Hdq q->p:=by intro k;(repeat(first|refine cg ?_|simp -dsimp));exact k.get):p:=e' ⟨h'⟩
variable {A:Prop}
theorem kx1 (a:A)(h':q)(e':A->Hdq q->p:=by intro a k;(repeat(first|refine cg ?_|simp -dsimp[a]));exact k.get):p:=e' a ⟨h'⟩
variable {B:Prop}
theorem kx2 (a:A)(b:B)(h':q)(e':A->B->Hdq q->p:=by intro a b k;(repeat(first|refine cg ?_|simp -dsimp[a,b]));exact k.get):p:=e' a b ⟨h'⟩
variable {C:Prop}
theorem kx3 (a:A)(b:B)(c:C)(h':q)(e':A->B->C->Hdq q->p:=by intro a b c k;(repeat(first|refine cg ?_|simp -dsimp[a,b,c]));exact k.get):p:=e' a b c ⟨h'⟩
theorem kx4 {D:Prop}(a:A)(b:B)(c:C)(d:D)(h':q)(e':A->B->C->D->Hdq q->p:=by intro a b c d k;(repeat(first|refine cg ?_|simp -dsimp[a,b,c,d]));exact k.get):p:=e' a b c d ⟨h'⟩
variable {E:Prop}
theorem kx5 {D:Prop}(a:A)(b:B)(c:C)(d:D)(e:E)(h':q)(e':A->B->C->D->E->Hdq q->p:=by intro a b c d e k;(repeat(first|refine cg ?_|simp -dsimp[a,b,c,d,e]));exact k.get):p:=e' a b c d e ⟨h'⟩
variable {F:Prop}
theorem kx6 {D:Prop}(a:A)(b:B)(c:C)(d:D)(e:E)(f:F)(h':q)(e':A->B->C->D->E->F->Hdq q->p:=by intro a b c d e f k;(repeat(first|refine cg ?_|simp -dsimp[a,b,c,d,e,f]));exact k.get):p:=e' a b c d e f ⟨h'⟩
variable {G:Prop}
theorem kx7 {D:Prop}(a:A)(b:B)(c:C)(d:D)(e:E)(f:F)(g:G)(h':q)(e':A->B->C->D->E->F->G->Hdq q->p:=by intro a b c d e f g k;(repeat(first|refine cg ?_|simp -dsimp[a,b,c,d,e,f,g]));exact k.get):p:=e' a b c d e f g ⟨h'⟩
variable {H:Prop}
theorem kx8 {D:Prop}(a:A)(b:B)(c:C)(d:D)(e:E)(f:F)(g:G)(h:H)(h':q)(e':A->B->C->D->E->F->G->H->Hdq q->p:=by intro a b c d e f g h k;(repeat(first|refine cg ?_|simp -dsimp[a,b,c,d,e,f,g,h]));exact k.get):p:=e' a b c d e f g h ⟨h'⟩
theorem kx9 {D I:Prop}(a:A)(b:B)(c:C)(d:D)(e:E)(f:F)(g:G)(h:H)(i:I)(h':q)(e':A->B->C->D->E->F->G->H->I->Hdq q->p:=by intro a b c d e f g h i k;(repeat(first|refine cg ?_|simp -dsimp[a,b,c,d,e,f,g,h,i]));exact k.get):p:=e' a b c d e f g h i ⟨h'⟩
theorem kdd (a:A)(h':q)(e':A->Hdq q->p:=by intro a k;(repeat(first|refine cg ?_|simp -dsimp[↓a]));exact k.get):p:=e' a ⟨h'⟩
theorem ZF5 (a:A)(b:B)(h':q)(e':A->B->Hdq q->p:=by intro a b k;(repeat(first|refine cg ?_|simp -dsimp[↓a,↓b]));exact k.get):p:=e' a b ⟨h'⟩
theorem Zb (a:A)(b:B)(c:C)(h':q)(e':A->B->C->Hdq q->p:=by intro a b c k;(repeat(first|refine cg ?_|simp -dsimp[a,b,↓c]));exact k.get):p:=e' a b c ⟨h'⟩
theorem ZNG (a:A)(b:B)(h':q)(e':A->B->Hdq q->p:=by intro a b k;(repeat(first|refine cg ?_|simp -dsimp[↓a,b]));exact k.get):p:=e' a b ⟨h'⟩
theorem ZJV (a:A)(b:B)(c:C)(h':q)(e':A->B->C->Hdq q->p:=by intro a b c k;(repeat(first|refine cg ?_|simp -dsimp[↓a,b,c]));exact k.get):p:=e' a b c ⟨h'⟩
theorem ZPY (a:A)(b:B)(h':q)(e':A->B->Hdq q->p:=by intro a b k;(repeat(first|refine cg ?_|simp -dsimp[a,↓b]));exact k.get):p:=e' a b ⟨h'⟩
theorem Zx {D:Prop}(a:A)(b:B)(c:C)(d:D)(h':q)(e':A->B->C->D->Hdq q->p:=by intro a b c d k;(repeat(first|refine cg ?_|simp -dsimp[a,b,↓c,↓d]));exact k.get):p:=e' a b c d ⟨h'⟩
theorem ZAD {D:Prop}(a:A)(b:B)(c:C)(d:D)(e:E)(f:F)(h':q)(e':A->B->C->D->E->F->Hdq q->p:=by intro a b c d e f k;(repeat(first|refine cg ?_|simp -dsimp[a,b,↓c,↓d,e,f]));exact k.get):p:=e' a b c d e f ⟨h'⟩
theorem kc0 (e':p:=by repeat(first|refine cg ?_|simp -dsimp)):p:=e'
theorem kc1 (a:A)(e':A->p:=by intro a;(repeat(first|refine cg ?_|simp -dsimp[a]))):p:=e' a
theorem kc2 (a:A)(b:B)(e':A->B->p:=by intro a b;(repeat(first|refine cg ?_|simp -dsimp[a,b]))):p:=e' a b
theorem kc3 (a:A)(b:B)(c:C)(e':A->B->C->p:=by intro a b c;(repeat(first|refine cg ?_|simp -dsimp[a,b,c]))):p:=e' a b c
theorem kc4 {D:Prop}(a:A)(b:B)(c:C)(d:D)(e':A->B->C->D->p:=by intro a b c d;(repeat(first|refine cg ?_|simp -dsimp[a,b,c,d]))):p:=e' a b c d
theorem kc5 {D:Prop}(a:A)(b:B)(c:C)(d:D)(e:E)(e':A->B->C->D->E->p:=by intro a b c d e;(repeat(first|refine cg ?_|simp -dsimp[a,b,c,d,e]))):p:=e' a b c d e
theorem kc6 {D:Prop}(a:A)(b:B)(c:C)(d:D)(e:E)(f:F)(e':A->B->C->D->E->F->p:=by intro a b c d e f;(repeat(first|refine cg ?_|simp -dsimp[a,b,c,d,e,f]))):p:=e' a b c d e f
theorem kc7 {D:Prop}(a:A)(b:B)(c:C)(d:D)(e:E)(f:F)(g:G)(e':A->B->C->D->E->F->G->p:=by intro a b c d e f g;(repeat(first|refine cg ?_|simp -dsimp[a,b,c,d,e,f,g]))):p:=e' a b c d e f g
theorem kc8 {D:Prop}(a:A)(b:B)(c:C)(d:D)(e:E)(f:F)(g:G)(h:H)(e':A->B->C->D->E->F->G->H->p:=by intro a b c d e f g h;(repeat(first|refine cg ?_|simp -dsimp[a,b,c,d,e,f,g,h]))):p:=e' a b c d e f g h
theorem kc9 {D I:Prop}(a:A)(b:B)(c:C)(d:D)(e:E)(f:F)(g:G)(h:H)(i:I)(e':A->B->C->D->E->F->G->H->I->p:=by intro a b c d e f g h i;(repeat(first|refine cg ?_|simp -dsimp[a,b,c,d,e,f,g,h,i]))):p:=e' a b c d e f g h i
variable {α β:Type}{x:Option α}
theorem oB {f:α->Option β}{r:β}(h:(x>>=f)=some r)(k:∀a,x=some a->f a=some r->G):G:=let⟨a,h1,h2⟩:=ob h;k a h1 h2
theorem oC [Decidable p]{x:Option β}{r:β}(h:(if p then x else none)=some r)(k:p->x=some r->G):G:=let⟨h1,h2⟩:=oc h;k h1 h2
theorem kB {f:α->Option β}{r:β}(h:(x>>=f)=some r)(k:∀a,x=some a->f a=some r->q)(e':Hdq q->G:=by intro k;(repeat(first|refine cg ?_|simp -dsimp));exact k.get):G:=let⟨a,h1,h2⟩:=ob h;e' ⟨k a h1 h2⟩
variable {d:Decidable p}
theorem kS {c y n:Prop}{b:Box y}{b':Box n}{x x' r:α}(h : c -> p -> x = r -> y)(h' : ¬ c -> ¬ p -> x' = r -> n)(e' : Hdq (abr c (hold y b) (hold n b')) -> G := by intro k; (repeat (first | refine cg ?_ | simp -dsimp)); exact k.get)(e:c->p:=by first|exact id|(intro h;omega)|(simp;done)|(intro h;simpa using h)|(intro h;simp at h ⊢;omega)|(intro h;simp_all))(e1:¬c->¬p:=by first|exact id|(intro h;omega)|(simp;done)|(intro h;simpa using h)|(intro h;simp at h ⊢;omega)|(intro h;simp_all))(hF:@ite α p d x x'=r):G:=e' ⟨abr.sp h h' e e1 hF⟩
theorem kN {c y n:Prop}{b:Box y}{b':Box n}{x x' r:α}(h : c -> ¬ p -> x' = r -> y)(h' : ¬ c -> p -> x = r -> n)(e' : Hdq (abr c (hold y b) (hold n b')) -> G := by intro k; (repeat (first | refine cg ?_ | simp -dsimp)); exact k.get)(e:c->¬p:=by first|exact id|(intro h;omega)|(simp;done)|(intro h;simpa using h)|(intro h;simp at h ⊢;omega)|(intro h;simp_all))(e1:¬c->p:=by first|exact id|(intro h;omega)|(simp;done)|(intro h;simpa using h)|(intro h;simp at h ⊢;omega)|(intro h;simp_all))(hF:@ite α p d x x'=r):G:=e' ⟨abr.ns h h' e e1 hF⟩
end
end Go.Vl
