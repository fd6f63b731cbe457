/- Part. -/
import Derived.Test.YtojdombnghnbmaaGreatVlG
import Derived.Test.YtojdombnghnbmaaGreatVlDraw3
set_option linter.all false
namespace Go.Vl
open Go Go.RowKit
section
variable {P : Program} {B nb N : Nat}
theorem PureCall.inLe {f : FuncId} {fn : Func} {c : Code} {args : List AV} {r : AV} (hf : P.funcs[f]? = some fn) (hb : fn.body = some c) (hN : fn.ntmps = N) (h : awp P B 0 N c ⟨ZBc 0 args, []⟩ (hold (ZAD P fn fun r' _ => r'.le r) .mk))
    (hn:(fn.name== "runtime.NumGoroutine")=false:=by kernel_rfl) (hargs:args.length<=N:=by simp) (hr:r.pure:=by simp):PureCall P B f args r:=PureCall.enterLe hf hn hb hN hargs hr h
theorem MutCall.inn {f : FuncId} {fn : Func} {c : Code} {cs args : List AV} {r : AV} {cs' : List AV} (hf : P.funcs[f]? = some fn) (hb : fn.body = some c) (hN : fn.ntmps = N) (h : awp P B 1 N c ⟨ZBc 0 args, [.cells cs]⟩ (hold (ZAD P fn fun r' σ' => r'.le r /\ ZBx σ' cs') .mk))
    (hn:(fn.name== "runtime.NumGoroutine")=false:=by kernel_rfl) (hargs:args.length<=N:=by simp) (hr:r.pure:=by simp) (hp:AV.pure.pures cs:=by simp) (hp':AV.pure.pures cs':=by simp):MutCall P B f cs args r cs':=MutCall.enter hf hn hb hN hargs hr hp hp' h
theorem ADraw.effI {ops : Array Oper} {b : Box ops} {fr : Frm} {σ : ZA} {K : ASt -> Prop} {b' : Box K} (fs : List FuncId) (tab : List (Nat × Nat)) (xs : List Nat) (hm : P.follows .mixedOrders = true) (h : aL fs P B N (hold ops .mk) ops.toList xs tab fr [σ] [] [] (hold (fun fr' σ' => K ⟨fr', σ'⟩) .mk))
    (hd:ZAu fs ops=true:=by kernel_rfl) (ht:ZLC fs ops tab=true:=by kernel_rfl) (hx:ZCR fs ops tab (xs.map (· ==1))=true:=by kernel_rfl):ADraw P B nb N (hold ops b) ⟨fr,σ⟩ (hold K b'):=ADraw.eff fs tab xs hm hd ht hx h
theorem ADraw.simI {ops : Array Oper} {b : Box ops} {fr : Frm} {σ : ZA} {K : ASt -> Prop} {b' : Box K} (hm : P.follows .mixedOrders = true) (h : aP P B N (hold ops .mk) ops.toList fr σ (hold (fun fr' => K ⟨fr', σ⟩) .mk))
    (hd:ZAu [] ops=true:=by kernel_rfl) (he:effCnt [] ops.toList=0:=by kernel_rfl):ADraw P B nb N (hold ops b) ⟨fr,σ⟩ (hold K b'):=ADraw.simple hm hd he h
theorem Gh.is {fr fr':Frm}{σ s:ZA}(hn:nb<=s.length:=by simp)(h:ZD7 σ s/\Zk s.length s/\ZLw s.length fr fr':=by first|(simp -dsimp;done)|simp_all):Gh B nb N ⟨fr,σ⟩ ⟨fr',s⟩:=Gh.to3 hn h
theorem Leave.is {e:Exit}{fr fr':Frm}{σ s:ZA}{Q:Exit->ASt->Prop}{bQ:Box Q}(h:Q e ⟨fr',s⟩)(hn:nb<=s.length:=by simp)(hg:ZD7 σ s/\Zk s.length s/\ZLw s.length fr fr':=by first|(simp -dsimp;done)|simp_all):Leave B nb N (hold Q bQ) e ⟨fr,σ⟩:=⟨_,Gh.to3 hn hg,h⟩
theorem Again.is {c : Code} {bc : Box c} {fr fr' : Frm} {σ s : ZA} {Q : Exit -> ASt -> Prop} {bQ : Box Q} (h : ALoopU P B nb N (hold c .mk) ⟨fr', s⟩ (hold Q .mk)) (hn : nb <= s.length := by simp) (hg : ZD7 σ s /\ Zk s.length s /\ ZLw s.length fr fr' := by first | (simp -dsimp; done) | simp_all) :
    Again P B nb N (hold c bc) (hold Q bQ) ⟨fr,σ⟩:=⟨_,Gh.to3 hn hg,h⟩
theorem ALoop.is {c : Code} {bc : Box c} {fr fr' : Frm} {σ s : ZA} {Q : Exit -> ASt -> Prop} {bQ : Box Q} (h : ALoopU P B nb N (hold c .mk) ⟨fr', s⟩ (hold Q .mk)) (hn : nb <= s.length := by simp) (hg : ZD7 σ s /\ Zk s.length s /\ ZLw s.length fr fr' := by first | (simp -dsimp; done) | simp_all) :
    ALoop P B nb N (hold c bc) ⟨fr,σ⟩ (hold Q bQ):=ALoop.goU _ (Gh.to3 hn hg) h
theorem PureCall.goI {f:FuncId}{args args':List AV}{r:AV}(h:PureCall P B f args' r){σ:ZA}{K:AV->ZA->Prop}{b:Box K}(hK:K r σ)(hl:AV.le.les args args':=by first|(simp;done)|simp_all)(hp:ZFV args:=by simp):ACall P B f args σ (hold K b):=h.goW hl hp hK
theorem ZI {x : Option Code} {c0 : Code} (hx : x = some c0) {H : (Exit -> ASt -> Prop) -> Prop} {st : ASt} (h : ∀ Q, H Q -> (∀ i, (lk st.fr i).bnd B) -> (∀ (l : Nat) b, st.σ[l]? = some b -> b.bnd B) -> ALoopU P B nb N (hold c0 .mk) st (hold Q .mk)) :
    ∀c,x=some c->∀Q,H Q->ALoopU P B nb N (hold c .mk) st (hold Q .mk):=fun c hc Q hq=>by
  rw[hx]at hc;cases hc
  exact ALoopU.know fun hk hs=>h Q hq hk hs
def KZ (q p:Prop):Prop:=q->p
theorem KZ.id {p:Prop}:KZ p p:=fun h=>h
theorem chk.gk {p q r:Prop}{b:Box q}(h':KZ r q)(h:p:=by first|omega|assumption|exact ZIB (by assumption)|rfl|(simp;done)|(simp;omega)|(simp[*];done)|(simp_all;done)|(simp_all;omega)):KZ r (chk p (hold q b)):=fun k=>⟨h,h' k⟩
theorem kz {q p:Prop}(h:q)(e:KZ q p:=by(repeat(first|refine chk.gk ?_|simp -dsimp));exact KZ.id):p:=e h
theorem ky {q p:Prop}(h:q)(e:KZ q p:=by(repeat(first|refine chk.gk ?_|simp -dsimp[*]));exact KZ.id):p:=e h
structure Hid (q:Prop):Prop where
  get:q
theorem kx1 {q p A:Prop}(a:A)(h':q)(e':A->Hid q->p:=by intro a k;(repeat(first|refine cg ?_|simp -dsimp[a]));exact k.get):p:=e' a ⟨h'⟩
theorem kx2 {q p A B:Prop}(a:A)(b:B)(h':q)(e':A->B->Hid q->p:=by intro a b k;(repeat(first|refine cg ?_|simp -dsimp[a,b]));exact k.get):p:=e' a b ⟨h'⟩
theorem kx3 {q p A B C:Prop}(a:A)(b:B)(c:C)(h':q)(e':A->B->C->Hid q->p:=by intro a b c k;(repeat(first|refine cg ?_|simp -dsimp[a,b,c]));exact k.get):p:=e' a b c ⟨h'⟩
theorem kx4 {q p A B C D:Prop}(a:A)(b:B)(c:C)(d:D)(h':q)(e':A->B->C->D->Hid q->p:=by intro a b c d k;(repeat(first|refine cg ?_|simp -dsimp[a,b,c,d]));exact k.get):p:=e' a b c d ⟨h'⟩
theorem kx5 {q p A B C D E:Prop}(a:A)(b:B)(c:C)(d:D)(e:E)(h':q)(e':A->B->C->D->E->Hid q->p:=by intro a b c d e k;(repeat(first|refine cg ?_|simp -dsimp[a,b,c,d,e]));exact k.get):p:=e' a b c d e ⟨h'⟩
theorem kx6 {q p A B C D E F:Prop}(a:A)(b:B)(c:C)(d:D)(e:E)(f:F)(h':q)(e':A->B->C->D->E->F->Hid q->p:=by intro a b c d e f k;(repeat(first|refine cg ?_|simp -dsimp[a,b,c,d,e,f]));exact k.get):p:=e' a b c d e f ⟨h'⟩
theorem kx7 {q p A B C D E F G:Prop}(a:A)(b:B)(c:C)(d:D)(e:E)(f:F)(g:G)(h':q)(e':A->B->C->D->E->F->G->Hid q->p:=by intro a b c d e f g k;(repeat(first|refine cg ?_|simp -dsimp[a,b,c,d,e,f,g]));exact k.get):p:=e' a b c d e f g ⟨h'⟩
theorem kx8 {q p A B C D E F G H:Prop}(a:A)(b:B)(c:C)(d:D)(e:E)(f:F)(g:G)(h:H)(h':q)(e':A->B->C->D->E->F->G->H->Hid q->p:=by intro a b c d e f g h k;(repeat(first|refine cg ?_|simp -dsimp[a,b,c,d,e,f,g,h]));exact k.get):p:=e' a b c d e f g h ⟨h'⟩
theorem kx9 {q p A B C D E F G H I:Prop}(a:A)(b:B)(c:C)(d:D)(e:E)(f:F)(g:G)(h:H)(i:I)(h':q)(e':A->B->C->D->E->F->G->H->I->Hid q->p:=by intro a b c d e f g h i k;(repeat(first|refine cg ?_|simp -dsimp[a,b,c,d,e,f,g,h,i]));exact k.get):p:=e' a b c d e f g h i ⟨h'⟩
theorem kdd {q p A:Prop}(a:A)(h':q)(e':A->Hid q->p:=by intro a k;(repeat(first|refine cg ?_|simp -dsimp[↓a]));exact k.get):p:=e' a ⟨h'⟩
theorem ZSU {q p A B:Prop}(a:A)(b:B)(h':q)(e':A->B->Hid q->p:=by intro a b k;(repeat(first|refine cg ?_|simp -dsimp[↓a,↓b]));exact k.get):p:=e' a b ⟨h'⟩
theorem ZRV {q p A B C:Prop}(a:A)(b:B)(c:C)(h':q)(e':A->B->C->Hid q->p:=by intro a b c k;(repeat(first|refine cg ?_|simp -dsimp[a,b,↓c]));exact k.get):p:=e' a b c ⟨h'⟩
theorem ZST {q p A B:Prop}(a:A)(b:B)(h':q)(e':A->B->Hid q->p:=by intro a b k;(repeat(first|refine cg ?_|simp -dsimp[↓a,b]));exact k.get):p:=e' a b ⟨h'⟩
theorem ZRW {q p A B C:Prop}(a:A)(b:B)(c:C)(h':q)(e':A->B->C->Hid q->p:=by intro a b c k;(repeat(first|refine cg ?_|simp -dsimp[↓a,b,c]));exact k.get):p:=e' a b c ⟨h'⟩
theorem ZSS {q p A B:Prop}(a:A)(b:B)(h':q)(e':A->B->Hid q->p:=by intro a b k;(repeat(first|refine cg ?_|simp -dsimp[a,↓b]));exact k.get):p:=e' a b ⟨h'⟩
theorem ZRA {q p A B C D:Prop}(a:A)(b:B)(c:C)(d:D)(h':q)(e':A->B->C->D->Hid q->p:=by intro a b c d k;(repeat(first|refine cg ?_|simp -dsimp[a,b,↓c,↓d]));exact k.get):p:=e' a b c d ⟨h'⟩
theorem ZQE {q p A B C D E F:Prop}(a:A)(b:B)(c:C)(d:D)(e:E)(f:F)(h':q)(e':A->B->C->D->E->F->Hid q->p:=by intro a b c d e f k;(repeat(first|refine cg ?_|simp -dsimp[a,b,↓c,↓d,e,f]));exact k.get):p:=e' a b c d e f ⟨h'⟩
theorem kc0 {p:Prop}(e':p:=by repeat(first|refine cg ?_|simp -dsimp)):p:=e'
theorem kc1 {p A:Prop}(a:A)(e':A->p:=by intro a;(repeat(first|refine cg ?_|simp -dsimp[a]))):p:=e' a
theorem kc2 {p A B:Prop}(a:A)(b:B)(e':A->B->p:=by intro a b;(repeat(first|refine cg ?_|simp -dsimp[a,b]))):p:=e' a b
theorem kc3 {p A B C:Prop}(a:A)(b:B)(c:C)(e':A->B->C->p:=by intro a b c;(repeat(first|refine cg ?_|simp -dsimp[a,b,c]))):p:=e' a b c
theorem kc4 {p A B C D:Prop}(a:A)(b:B)(c:C)(d:D)(e':A->B->C->D->p:=by intro a b c d;(repeat(first|refine cg ?_|simp -dsimp[a,b,c,d]))):p:=e' a b c d
theorem kc5 {p A B C D E:Prop}(a:A)(b:B)(c:C)(d:D)(e:E)(e':A->B->C->D->E->p:=by intro a b c d e;(repeat(first|refine cg ?_|simp -dsimp[a,b,c,d,e]))):p:=e' a b c d e
theorem kc6 {p A B C D E F:Prop}(a:A)(b:B)(c:C)(d:D)(e:E)(f:F)(e':A->B->C->D->E->F->p:=by intro a b c d e f;(repeat(first|refine cg ?_|simp -dsimp[a,b,c,d,e,f]))):p:=e' a b c d e f
theorem kc7 {p A B C D E F G:Prop}(a:A)(b:B)(c:C)(d:D)(e:E)(f:F)(g:G)(e':A->B->C->D->E->F->G->p:=by intro a b c d e f g;(repeat(first|refine cg ?_|simp -dsimp[a,b,c,d,e,f,g]))):p:=e' a b c d e f g
theorem kc8 {p A B C D E F G H:Prop}(a:A)(b:B)(c:C)(d:D)(e:E)(f:F)(g:G)(h:H)(e':A->B->C->D->E->F->G->H->p:=by intro a b c d e f g h;(repeat(first|refine cg ?_|simp -dsimp[a,b,c,d,e,f,g,h]))):p:=e' a b c d e f g h
theorem kc9 {p A B C D E F G H I:Prop}(a:A)(b:B)(c:C)(d:D)(e:E)(f:F)(g:G)(h:H)(i:I)(e':A->B->C->D->E->F->G->H->I->p:=by intro a b c d e f g h i;(repeat(first|refine cg ?_|simp -dsimp[a,b,c,d,e,f,g,h,i]))):p:=e' a b c d e f g h i
end
end Go.Vl
