import Derived.Test.YtmjpphcloedceaaGreatVlOps2
import Derived.Laws.BytesString
import Derived.Laws.BytesArg
set_option linter.all false
open Bool renaming and_eq_true->zA,not_eq_true'->zB
open List renaming getElem?_eq_some_iff->zC,getElem?_eq_getElem->zD,mem_of_getElem?->zE,getElem?_map->zF,length_eq_zero_iff->zG,length_cons->zH,getElem_mem->zI,replicate->zJ
open Nat renaming le_refl->zK,mul_le_mul_right->zL,one_mul->zM,add_mul->zN,zero_add->zO,add_zero->zP
open Option.some renaming inj->zQ
open Option renaming map_eq_some_iff->zR
open Array renaming eq_empty_of_size_eq_zero->zS,getD_eq_getD_getElem?->zT,range->zU
namespace Go.Vl
open Go
open Go.Op renaming equalIn->zV,eqFields->zW,maxDepth->zX,unary->zY,equal->zZ
open Go.Program renaming fieldsOf->yA,cellsOf->yB
open Go.Sem renaming run_bind->yC
open Go.Result renaming andThen->yD,andThen_ok->yE
open Conc renaming lit_inv->yF
open Go.Instr renaming fill->yG
section
variable {P : Program} {B : Nat} {w : World} {m : Map} {σ : ZE}
def Good (B:Nat)(m:Map)(w:World)(K:AV->ZE->Prop)(R:Result Value):Prop:=
  ∃u r σ' m' w',R=.ok u w'/\K r σ'/\Sim B m' σ' w'/\Conc B (Av m') w' m' r u/\Fr m w m' w'
variable {u:Value}
theorem Good.same (h:Sim B m σ w){K:AV->ZE->Prop}{r:AV}(hK:K r σ)(hc:Conc B (Av m) w m r u){R:Result Value}(hR:R=.ok u w):Good B m w K R:=
  ⟨u,r,σ,m,w,hR,hK,h,hc,Fr.refl m w⟩
variable {P:Program}{t:TypeId}{w:World}
theorem ZGR (h : ZBu P t = true)(m : Nat)(a b c d : Int) :
    (zV (m+2) t (.agg #[.int .i64 a,.int .i64 b]) (.agg #[.int .i64 c,.int .i64 d])).run P w=.ok (a==c&& b==d) w:=by
  unfold ZBu at h
  simp only[zA,zB]at h
  obtain⟨⟨h1,h2⟩,h3⟩:=h
  split at h3
  · next fs hu=>
    split at h3
    · next f g hfg=>
      simp only[zA,bne_iff_ne,beq_iff_eq]at h3
      obtain⟨⟨⟨⟨⟨n1,n2⟩,o1⟩,o2⟩,t1⟩,t2⟩:=h3
      have u1:P.underlying f.type=some (.int .i64):=by split at t1<;>simp_all
      have u2:P.underlying g.type=some (.int .i64):=by split at t2<;>simp_all
      have hf:P.fieldsOf t=fs:=by simp[yA,hu]
      rw[run_equalIn_struct w (m+1) t _ _ (by rw[hf];exact hu) h1,hf,hfg]
      simp only[zW,n1,n2,o1,o2,ne_eq,not_false_eq_true,if_true,yC]
      have p1:∀(u v:Int),(part f.type #[.int .i64 u,.int .i64 v] 0).run P w=.ok (.int .i64 u) w:=by
        intro u v;simp[part,isAgg,run_underlying u1]
      have p2:∀(u v:Int),(part g.type #[.int .i64 u,.int .i64 v] 1).run P w=.ok (.int .i64 v) w:=by
        intro u v;simp[part,isAgg,run_underlying u2]
      simp only[p1,p2,yE,run_equalIn_int w m f.type .i64 .i64 a c u1,run_equalIn_int w m g.type .i64 .i64 b d u2]
      cases ha:(a==c)<;>cases hb:(b==d)<;>simp[p2,run_equalIn_int w m g.type .i64 .i64 b d u2,hb,yD]
    · cases h3
  · cases h3
variable {op:BinOp}{xo yo:Operand}
theorem ZKQ (h : ZBu P t = true)(a b c d : Int) :
    (eqGuard op t xo yo (.agg #[.int .i64 a,.int .i64 b]) (.agg #[.int .i64 c,.int .i64 d])).run P w=.ok () w/\
    (binOp .eql t (.agg #[.int .i64 a,.int .i64 b]) (.agg #[.int .i64 c,.int .i64 d])).run P w=.ok (.bool (a==c&& b==d)) w/\
    (binOp .neq t (.agg #[.int .i64 a,.int .i64 b]) (.agg #[.int .i64 c,.int .i64 d])).run P w=.ok (.bool (!(a==c&& b==d))) w:=by
  have e:=ZGR (w:=w) h 9998 a b c d
  unfold ZBu at h
  simp only[zA,zB]at h
  refine⟨run_eqGuard_agg w op t xo yo _ _ h.1.2,?_,?_⟩
  · rw[run_eql_struct,e];rfl
  · rw[run_neq_struct,e];rfl
theorem ZLe (h : ZDH P t = true)(m : Nat)(a b c a' b' c' : Int) :
    (zV (m+3) t (.agg #[.int .i64 a,.int .i64 b,.int .i64 c]) (.agg #[.int .i64 a',.int .i64 b',.int .i64 c'])).run P w=.ok (a==a'&& (b==b'&& c==c')) w:=by
  unfold ZDH at h
  simp only[zA,zB]at h
  obtain⟨⟨h1,h2⟩,h3⟩:=h
  split at h3
  · next fs hu=>
    have hf:P.fieldsOf t=fs:=by simp[yA,hu]
    split at h3
    · next f g k hfg=>
      simp only[zA,bne_iff_ne,beq_iff_eq]at h3
      obtain⟨⟨⟨⟨⟨⟨⟨⟨n1,n2⟩,n3⟩,o1⟩,o2⟩,o3⟩,t1⟩,t2⟩,t3⟩:=h3
      have u1:P.underlying f.type=some (.int .i64):=by split at t1<;>simp_all
      have u2:P.underlying g.type=some (.int .i64):=by split at t2<;>simp_all
      have u3:P.underlying k.type=some (.int .i64):=by split at t3<;>simp_all
      rw[run_equalIn_struct w (m+2) t _ _ (by rw[hf];exact hu) h1,hf,hfg]
      simp only[zW,n1,n2,n3,o1,o2,o3,ne_eq,not_false_eq_true,if_true,yC]
      have p1:∀(u v x:Int),(part f.type #[.int .i64 u,.int .i64 v,.int .i64 x] 0).run P w=.ok (.int .i64 u) w:=by
        intro u v x;simp[part,isAgg,run_underlying u1]
      have p2:∀(u v x:Int),(part g.type #[.int .i64 u,.int .i64 v,.int .i64 x] 1).run P w=.ok (.int .i64 v) w:=by
        intro u v x;simp[part,isAgg,run_underlying u2]
      have p3:∀(u v x:Int),(part k.type #[.int .i64 u,.int .i64 v,.int .i64 x] 2).run P w=.ok (.int .i64 x) w:=by
        intro u v x;simp[part,isAgg,run_underlying u3]
      simp only[p1,p2,p3,yE,run_equalIn_int w (m+1) f.type .i64 .i64 a a' u1,run_equalIn_int w (m+1) g.type .i64 .i64 b b' u2,run_equalIn_int w (m+1) k.type .i64 .i64 c c' u3]
      cases ha:(a==a')<;>cases hb:(b==b')<;>cases hc:(c==c')<;>simp[p2,p3,run_equalIn_int w (m+1) g.type .i64 .i64 b b' u2,run_equalIn_int w (m+1) k.type .i64 .i64 c c' u3,hb,hc,yD]
    · next f g hfg=>
      simp only[zA,bne_iff_ne,beq_iff_eq]at h3
      obtain⟨⟨⟨⟨⟨⟨n1,n2⟩,o1⟩,o2⟩,t1⟩,t2⟩,t3⟩:=h3
      have u1:P.underlying f.type=some (.int .i64):=by split at t1<;>simp_all
      rw[run_equalIn_struct w (m+2) t _ _ (by rw[hf];exact hu) h1,hf,hfg]
      simp only[zW,n1,n2,o1,o2,ne_eq,not_false_eq_true,if_true,yC]
      have p1:∀(u v x:Int),(part f.type #[.int .i64 u,.int .i64 v,.int .i64 x] 0).run P w=.ok (.int .i64 u) w:=by
        intro u v x;simp[part,isAgg,run_underlying u1]
      have p2:∀(u v x:Int),(part g.type #[.int .i64 u,.int .i64 v,.int .i64 x] 1).run P w=.ok (.agg #[.int .i64 v,.int .i64 x]) w:=by
        intro u v x
        have t2':=t2
        unfold ZBu at t2'
        simp only[zA]at t2'
        obtain⟨_,t2'⟩:=t2'
        split at t2'
        · next fs' hu'=>
          obtain⟨i,hi⟩:=info_of_underlying hu'
          have hsz:i.size=2:=by simpa[yB,hi]using t3
          simp[part,isAgg,run_underlying hu',sizeOf,typeInfo,hi,hsz]
        · cases t2'
      simp only[p1,p2,yE,run_equalIn_int w (m+1) f.type .i64 .i64 a a' u1,ZGR (w:=w) t2 m b c b' c']
      cases ha:(a==a')<;>simp[p2,ZGR (w:=w) t2 m b c b' c',yD]
      cases hb:(b==b'&& c==c')<;>simp_all
    · cases h3
  · cases h3
theorem ZKE (h : ZDH P t = true)(a b c a' b' c' : Int) :
    (eqGuard op t xo yo (.agg #[.int .i64 a,.int .i64 b,.int .i64 c]) (.agg #[.int .i64 a',.int .i64 b',.int .i64 c'])).run P w=.ok () w/\
    (binOp .eql t (.agg #[.int .i64 a,.int .i64 b,.int .i64 c]) (.agg #[.int .i64 a',.int .i64 b',.int .i64 c'])).run P w=.ok (.bool (a==a'&& (b==b'&& c==c'))) w/\
    (binOp .neq t (.agg #[.int .i64 a,.int .i64 b,.int .i64 c]) (.agg #[.int .i64 a',.int .i64 b',.int .i64 c'])).run P w=.ok (.bool (!(a==a'&& (b==b'&& c==c')))) w:=by
  have e:=ZLe (w:=w) h 9997 a b c a' b' c'
  unfold ZDH at h
  simp only[zA,zB]at h
  refine⟨run_eqGuard_agg w op t xo yo _ _ h.1.2,?_,?_⟩
  · rw[run_eql_struct,e];rfl
  · rw[run_neq_struct,e];rfl
theorem ZLp (h : ZED P t = true)(m : Nat)(a b c d a' b' c' d' : Int) :
    (zV (m+3) t (.agg #[.int .i64 a,.int .i64 b,.int .i64 c,.int .i64 d]) (.agg #[.int .i64 a',.int .i64 b',.int .i64 c',.int .i64 d'])).run P w=.ok (a==a'&& (b==b'&& (c==c'&& d==d'))) w:=by
  unfold ZED at h
  simp only[zA,zB]at h
  obtain⟨⟨h1,h2⟩,h3⟩:=h
  split at h3
  · next fs hu=>
    have hf:P.fieldsOf t=fs:=by simp[yA,hu]
    split at h3
    · next f g k l hfg=>
      simp only[zA,bne_iff_ne,beq_iff_eq]at h3
      obtain⟨⟨⟨⟨⟨⟨⟨⟨⟨⟨⟨n1,n2⟩,n3⟩,n4⟩,o1⟩,o2⟩,o3⟩,o4⟩,t1⟩,t2⟩,t3⟩,t4⟩:=h3
      have u1:P.underlying f.type=some (.int .i64):=by split at t1<;>simp_all
      have u2:P.underlying g.type=some (.int .i64):=by split at t2<;>simp_all
      have u3:P.underlying k.type=some (.int .i64):=by split at t3<;>simp_all
      have u4:P.underlying l.type=some (.int .i64):=by split at t4<;>simp_all
      rw[run_equalIn_struct w (m+2) t _ _ (by rw[hf];exact hu) h1,hf,hfg]
      simp only[zW,n1,n2,n3,n4,o1,o2,o3,o4,ne_eq,not_false_eq_true,if_true,yC]
      have p1:∀(u v x y:Int),(part f.type #[.int .i64 u,.int .i64 v,.int .i64 x,.int .i64 y] 0).run P w=.ok (.int .i64 u) w:=by
        intro u v x y;simp[part,isAgg,run_underlying u1]
      have p2:∀(u v x y:Int),(part g.type #[.int .i64 u,.int .i64 v,.int .i64 x,.int .i64 y] 1).run P w=.ok (.int .i64 v) w:=by
        intro u v x y;simp[part,isAgg,run_underlying u2]
      have p3:∀(u v x y:Int),(part k.type #[.int .i64 u,.int .i64 v,.int .i64 x,.int .i64 y] 2).run P w=.ok (.int .i64 x) w:=by
        intro u v x y;simp[part,isAgg,run_underlying u3]
      have p4:∀(u v x y:Int),(part l.type #[.int .i64 u,.int .i64 v,.int .i64 x,.int .i64 y] 3).run P w=.ok (.int .i64 y) w:=by
        intro u v x y;simp[part,isAgg,run_underlying u4]
      have e1:=run_equalIn_int w (m+1) f.type .i64 .i64 a a' u1
      have e2:=run_equalIn_int w (m+1) g.type .i64 .i64 b b' u2
      have e3:=run_equalIn_int w (m+1) k.type .i64 .i64 c c' u3
      have e4:=run_equalIn_int w (m+1) l.type .i64 .i64 d d' u4
      simp only[p1,p2,p3,p4,yE,e1]
      cases ha:(a==a')<;>cases hb:(b==b')<;>cases hc:(c==c')<;>cases hd:(d==d')<;>simp[p2,p3,p4,e2,e3,e4,hb,hc,hd,yD]
    · cases h3
  · cases h3
theorem ZKJ (h : ZED P t = true)(a b c d a' b' c' d' : Int) :
    (eqGuard op t xo yo (.agg #[.int .i64 a,.int .i64 b,.int .i64 c,.int .i64 d]) (.agg #[.int .i64 a',.int .i64 b',.int .i64 c',.int .i64 d'])).run P w=.ok () w/\
    (binOp .eql t (.agg #[.int .i64 a,.int .i64 b,.int .i64 c,.int .i64 d]) (.agg #[.int .i64 a',.int .i64 b',.int .i64 c',.int .i64 d'])).run P w=.ok (.bool (a==a'&& (b==b'&& (c==c'&& d==d')))) w/\
    (binOp .neq t (.agg #[.int .i64 a,.int .i64 b,.int .i64 c,.int .i64 d]) (.agg #[.int .i64 a',.int .i64 b',.int .i64 c',.int .i64 d'])).run P w=.ok (.bool (!(a==a'&& (b==b'&& (c==c'&& d==d'))))) w:=by
  have e:=ZLp (w:=w) h 9997 a b c d a' b' c' d'
  unfold ZED at h
  simp only[zA,zB]at h
  refine⟨run_eqGuard_agg w op t xo yo _ _ h.1.2,?_,?_⟩
  · rw[run_eql_struct,e];rfl
  · rw[run_neq_struct,e];rfl
theorem ZCd (w : World) (d : Nat) (t e : TypeId) (hu : P.underlying t = some (.slice e)) (a : Option Addr) (n c : Nat) :
    (zV (d+1) t (.slice a n c) (.slice none 0 0)).run P w=.ok a.isNone w:=by
  unfold zV
  simp only[yC,run_underlying hu,yE]
  cases a<;>rfl
theorem ZCE (w : World) (op : BinOp) (t : TypeId) (xo yo : Operand) (ht : ZE3 P t = true) (a : Option Addr) (n c : Nat) :
    (eqGuard op t xo yo (.slice a n c) (.slice none 0 0)).run P w=.ok () w/\
    (binOp .eql t (.slice a n c) (.slice none 0 0)).run P w=.ok (.bool a.isNone) w/\
    (binOp .neq t (.slice a n c) (.slice none 0 0)).run P w=.ok (.bool (!a.isNone)) w:=by
  have hu:∃e,P.underlying t=some (.slice e):=by
    unfold ZE3 at ht
    grind
  obtain⟨e,hu⟩:=hu
  have key:(zV 10000 t (.slice a n c) (.slice none 0 0)).run P w=.ok a.isNone w:=ZCd w 9999 t e hu a n c
  refine⟨by unfold eqGuard;split<;>simp,?_,?_⟩
  · simp[binOp,zZ,zX,key]
  · simp[binOp,zZ,zX,key]
variable {K:AV -> Prop}
theorem ZIZ (h : Sim B m σ w){x y:AV}(hk : ZM6 P op t x y K){v:Value}(hx : Conc B (Av m) w m x u)(hy : Conc B (Av m) w m y v) :
    Good B m w (fun r s=>K r/\s=σ) ((do eqGuard op t xo yo u v;binOp op t u v:Sem Value).run P w):=by
  unfold ZM6 at hk
  split at hk
  · next k a k' b=>
    obtain rfl:=yF hx
    obtain rfl:=yF hy
    obtain⟨rfl,hk⟩:=hk
    have hg:(eqGuard op t xo yo (.int k a) (.int k b)).run P w=.ok () w:=by
      unfold eqGuard;split<;>simp
    cases op<;>first
      |exact hk.elim
      |(refine Good.same h ⟨hk,rfl⟩ (.lit _) ?_;simp[hg,binOp,Op.intArith,Op.intCmp];done)
      |(refine Good.same h ⟨hk,rfl⟩ (.lit _) ?_;simp[hg,binOp];rfl)
      |(obtain⟨hb,hk⟩:=hk;refine Good.same h ⟨hk,rfl⟩ (.lit _) ?_;simp[hg,binOp,Op.intDiv,hb])
  · next a b=>
    obtain rfl:=yF hx
    obtain rfl:=yF hy
    have hg:(eqGuard op t xo yo (.string a) (.string b)).run P w=.ok () w:=by
      unfold eqGuard;split<;>simp
    cases op<;>first
      |exact hk.elim
      |(refine Good.same h ⟨hk,rfl⟩ (.lit _) ?_;simp[hg,binOp,Op.stringOp];done)
      | (obtain ⟨hb, hk⟩ := hk; refine Good.same h ⟨hk, rfl⟩ (.lit _) ?_
         simp[hg,binOp,Op.stringOp,IntKind.max,IntKind.bits,IntKind.signed];omega)
  · next a b=>
    obtain rfl:=yF hx
    obtain rfl:=yF hy
    obtain⟨ht,hk⟩:=hk
    have hg:(eqGuard op t xo yo (.bool a) (.bool b)).run P w=.ok () w:=by
      unfold eqGuard;split<;>simp
    cases op<;>first
      |exact hk.elim
      |(refine Good.same h ⟨hk,rfl⟩ (.lit _) ?_;simp[hg,binOp,zZ,zX,run_equalIn_bool' w 9999 t a b ht])
  · next xs ys=>
    split at hk
    · next p q hp1 hq1=>
      obtain⟨hp,hk⟩:=hk
      obtain⟨a,b⟩:=p
      obtain⟨c,d⟩:=q
      obtain rfl:=ZEF hp1
      obtain rfl:=ZEF hq1
      have inv:∀{p q:Int} {v:Value},Conc B (Av m) w m (.agg [.lit (.int .i64 p),.lit (.int .i64 q)]) v->v=.agg #[.int .i64 p,.int .i64 q]:=by
        intro p q v hv
        cases hv with
        |agg _ us hlen hx=>
          have h0:=yF (hx 0 _ rfl)
          have h1:=yF (hx 1 _ rfl)
          obtain⟨us⟩:=us
          match us,hlen with
          | [u0,u1],_=>simp at h0 h1;rw[h0,h1]
      obtain rfl:=inv hx
      obtain rfl:=inv hy
      obtain⟨q1,q2,q3⟩:=ZKQ (w:=w) hp a b c d (op:=op) (xo:=xo) (yo:=yo)
      cases op<;>first
        |exact hk.elim
        |(refine Good.same h ⟨hk,rfl⟩ (.lit _) ?_;simp only[yC,q1,q2,q3,yD,←ZMr])
    · split at hk
      · next p q hp1 hq1=>
        obtain⟨hp,hk⟩:=hk
        obtain⟨a,b,c⟩:=p
        obtain⟨a',b',c'⟩:=q
        obtain rfl:=ZD8 hp1
        obtain rfl:=ZD8 hq1
        have inv:∀{p q r:Int} {v:Value},Conc B (Av m) w m (.agg [.lit (.int .i64 p),.lit (.int .i64 q),.lit (.int .i64 r)]) v->v=.agg #[.int .i64 p,.int .i64 q,.int .i64 r]:=by
          intro p q r v hv
          cases hv with
          |agg _ us hlen hx=>
            have h0:=yF (hx 0 _ rfl)
            have h1:=yF (hx 1 _ rfl)
            have h2:=yF (hx 2 _ rfl)
            obtain⟨us⟩:=us
            match us,hlen with
            | [u0,u1,u2],_=>simp at h0 h1 h2;rw[h0,h1,h2]
        obtain rfl:=inv hx
        obtain rfl:=inv hy
        obtain⟨q1,q2,q3⟩:=ZKE (w:=w) hp a b c a' b' c' (op:=op) (xo:=xo) (yo:=yo)
        cases op<;>first
          |exact hk.elim
          |(refine Good.same h ⟨hk,rfl⟩ (.lit _) ?_;simp only[yC,q1,q2,q3,yD,←ZMq])
      · split at hk
        · next p q hp1 hq1=>
          obtain⟨hp,hk⟩:=hk
          obtain⟨a,b,c,d⟩:=p
          obtain⟨a',b',c',d'⟩:=q
          obtain rfl:=ZEC hp1
          obtain rfl:=ZEC hq1
          have inv:∀{p q r s:Int} {v:Value},Conc B (Av m) w m (.agg [.lit (.int .i64 p),.lit (.int .i64 q),.lit (.int .i64 r),.lit (.int .i64 s)]) v->v=.agg #[.int .i64 p,.int .i64 q,.int .i64 r,.int .i64 s]:=by
            intro p q r s v hv
            cases hv with
            |agg _ us hlen hx=>
              have h0:=yF (hx 0 _ rfl)
              have h1:=yF (hx 1 _ rfl)
              have h2:=yF (hx 2 _ rfl)
              have h3:=yF (hx 3 _ rfl)
              obtain⟨us⟩:=us
              match us,hlen with
              | [u0,u1,u2,u3],_=>simp at h0 h1 h2 h3;rw[h0,h1,h2,h3]
          obtain rfl:=inv hx
          obtain rfl:=inv hy
          obtain⟨q1,q2,q3⟩:=ZKJ (w:=w) hp a b c d a' b' c' d' (op:=op) (xo:=xo) (yo:=yo)
          cases op<;>first
            |exact hk.elim
            |(refine Good.same h ⟨hk,rfl⟩ (.lit _) ?_;simp only[yC,q1,q2,q3,yD,←ZMp])
        · exact hk.elim
  · next es=>
    obtain⟨ht,hne,hk⟩:=hk
    obtain rfl:=yF hy
    cases hx with
    |arrNil a cap=>exact absurd rfl hne
    |arr es b off sz cap ys hB hs hW hb hcap hc hx=>
      obtain⟨q1,q2,q3⟩:=ZCE (P:=P) w op t xo yo ht (some ⟨b,off,none⟩) es.length cap
      cases op<;>first
        |exact hk.elim
        |(refine Good.same h ⟨hk,rfl⟩ (.lit _) ?_;simp[yC,q1,q2,q3,yD])
  · next a n c=>
    obtain rfl:=yF hx
    obtain rfl:=yF hy
    obtain⟨ht,hk⟩:=hk
    obtain⟨q1,q2,q3⟩:=ZCE (P:=P) w op t xo yo ht a n c
    cases op<;>first
      |exact hk.elim
      |(refine Good.same h ⟨hk,rfl⟩ (.lit _) ?_;simp[yC,q1,q2,q3,yD])
  · exact hk.elim
theorem ZJ1 (h : Sim B m σ w){op:UnOp}{x:AV}(hk : aUn op x K)(hx : Conc B (Av m) w m x u) :
    Good B m w (fun r s=>K r/\s=σ) ((zY op u).run P w):=by
  unfold aUn at hk
  split at hk
  · obtain rfl:=yF hx
    exact Good.same h ⟨hk,rfl⟩ (.lit _) (by simp[zY])
  · obtain rfl:=yF hx
    exact Good.same h ⟨hk,rfl⟩ (.lit _) (by simp[zY,Op.intArith])
  · exact hk.elim
theorem ZGB :∀{es:List (List AV)} {ns:List Int},u8s es=some ns->es.length=ns.length/\∀(i:Nat) (e:List AV),es[i]? =some e->e=[.lit (.int .u8 (ns.getD i 0))]
  | [],ns,h=>by simp[u8s]at h;subst h;exact⟨rfl,fun i e hi=>by simp at hi⟩
  |a::r,ns,h=>by
    unfold u8s at h
    split at h
    · next v vs h1 h2=>
      cases h
      obtain⟨g1,g2⟩:=ZGB h2
      refine⟨by simp[g1],fun i e hi=> ?_⟩
      cases i with
      |zero=>
        simp at hi
        subst hi
        unfold ZOu at h1
        grind
      |succ i=>simpa using g2 i e (by simpa using hi)
    · cases h
theorem ZBt {src dst e:TypeId}(hs : P.underlying src = some (.slice e))(hr : ZBM P (some (.slice e)) = true)(hd : P.underlying dst = some .string)(b off : Nat)(cap : Nat)(ns : List Int)(hcell:∀i,i<ns.length->w.cell? ⟨b,off+i,none⟩=some (.int .u8 (ns.getD i 0))):(convert src dst (.slice (some ⟨b,off,none⟩) ns.length cap)).run P w=.ok (.string (ZHC ns)) w:=by
  have he:P.underlying e=some (.int .u8):=by
    simp only[ZBM]at hr
    split at hr<;>simp_all
  have hl:(loadCells ⟨b,off,none⟩ ns.length).run P w=.ok (ns.map (Value.int .u8)).toArray w:=by
    have:=run_loadCells_list (P:=P) w ⟨b,off,none⟩ (ns.map (Value.int .u8)) (fun j v hj=>by
      have hjl:j<ns.length:=by grind
      rw[ZBw,hcell j hjl]
      simp[zD hjl]at hj
      subst hj
      simp[List.getD,zD hjl])
    simpa using this
  rw[run_convert_bytes_string w src dst e _ _ cap hs he hd,run_bytesToString w _ _ cap ns hl]
  rfl
theorem ZG3 (h : Sim B m σ w){s d:TypeId}{x:AV}(hk : ZD5 P s d σ x K)(hx : Conc B (Av m) w m x u) :
    Good B m w (fun r s=>K r/\s=σ) ((convert s d u).run P w):=by
  unfold ZD5 at hk
  split at hk
  · next h1 h2=>
    obtain rfl:=yF hx
    exact Good.same h ⟨hk,rfl⟩ (.lit _) (by simp[convert,ZG h1,ZG h2,Conv.intToInt])
  · next e es h1 h2=>
    obtain⟨hr,hk⟩:=hk
    split at hk
    · next ns hns=>
      obtain⟨g1,g2⟩:=ZGB hns
      cases hx with
      |arr _ b off sz cap ys hB hsz hW hb hcap hc hx=>
        refine Good.same h ⟨hk,rfl⟩ (.lit _) ?_
        rw[g1]
        refine ZBt h1 hr h2 b off cap ns fun i hi=> ?_
        have hi':es[i]? =some es[i]:=zD (by omega)
        have he:=g2 i _ hi'
        have hsz1:sz=1:=by have:=hsz _ (zI (by omega:i<es.length));rw[he]at this;simpa using this.symm
        subst hsz1
        have h0:es[i][0]? =some (.lit (.int .u8 (ns.getD i 0))):=by rw[he];rfl
        have:=hc i _ 0 _ hi' h0
        rw[Nat.mul_one,zP]at this
        rw[this]
        have:=yF (hx i _ 0 _ hi' h0)
        rw[this]
      |arrNil a cap=>
        have:ns=[]:=zG.1 (by rw[←g1];rfl)
        subst this
        refine Good.same h ⟨hk,rfl⟩ (.lit _) ?_
        have he:P.underlying e=some (.int .u8):=by
          simp only[ZBM]at hr
          split at hr<;>simp_all
        rw[run_convert_bytes_string w _ _ e a 0 cap h1 he h2]
        cases a with
        |none=>simp[Conv.bytesToString,ZHC]
        |some a=>exact run_bytesToString w a 0 cap [] (by simpa using run_loadCells_list (P:=P) w a [] (fun j v hj=>by simp at hj))
    · exact hk.elim
  · next e l n h1 h2=>
    obtain⟨hr,hk⟩:=hk
    split at hk
    · next sz es hl=>
      obtain⟨hlen,hk⟩:=hk
      split at hk
      · next ns hns=>
        obtain⟨g1,g2⟩:=ZGB hns
        have he:P.underlying e=some (.int .u8):=by
          simp only[ZBM]at hr
          split at hr<;>simp_all
        obtain⟨hsz,hB,hc⟩:=h.elts hl
        refine Good.same h ⟨hk,rfl⟩ (.lit _) ?_
        rcases hc with⟨hf,rfl⟩|⟨b,ccs,ty,hf,q2,q3,q4⟩
        · have:ns=[]:=zG.1 (by rw[←g1];rfl)
          subst this
          cases hx with
          |ownOther l n ao co hl hk' _=>have:=hk' 0 (by rw[hf];rfl);simp at hlen;omega
          |ownNil l a hl hh=>
            rw[run_convert_bytes_string w _ _ e a 0 0 h1 he h2]
            cases a with
            |none=>simp[Conv.bytesToString,ZHC]
            |some a=>exact run_bytesToString w a 0 0 [] (by simpa using run_loadCells_list (P:=P) w a [] (fun j v hj=>by simp at hj))
          |ownArr l b sz len cap ccs ty hl hh h1 h2 h3=>rw[hf]at hh;cases hh
        · cases hx with
          |ownOther l n ao co hl hk' _=>have:=hk' es.length (by rw[hf];rfl);omega
          |ownNil l a hl hh=>rw[hf]at hh;cases hh
          |ownArr l b' sz' len cap ccs' ty' hl hh hh2 h3 h4=>
            rw[hf]at hh
            cases hh
            rw[g1]
            refine ZBt h1 hr h2 b 0 cap ns fun i hi=> ?_
            have hi':es[i]? =some es[i]:=zD (by omega)
            have he:=g2 i _ hi'
            have hsz1:sz=1:=by have:=hsz _ (zI (by omega:i<es.length));rw[he]at this;simpa using this.symm
            subst hsz1
            have h0:es[i][0]? =some (.lit (.int .u8 (ns.getD i 0))):=by rw[he];rfl
            obtain⟨y,hy,hcy⟩:=q4 i _ 0 _ hi' h0
            have:=yF hcy
            subst this
            rw[ZBL q2]
            simpa using hy
      · exact hk.elim
    · exact hk.elim
  · exact hk.elim
def Map.kill (m:Map)(l:Nat):Map:=⟨fun j=>if j=l then .dead else m.f j,m.n,m.av⟩
theorem Fr.kill (m:Map)(w:World)(l:Nat):Fr m w (m.kill l) w where
  size:=zK _
  keep _ _ _:=rfl
  phys _ ccs _ _ _ h:=⟨ccs,h,rfl⟩
  fresh b:=by
    rintro⟨j,hj⟩
    simp only[Map.kill]at hj
    split at hj
    · simp[MS.has]at hj
    · exact .inl ⟨j,hj⟩
  ids j _:=by
    simp only[Map.kill]
    split
    · exact .inr (.inl rfl)
    · exact .inl rfl
  n:=zK _
  av:=rfl
  tape:=rfl
  os:=rfl
  output:=rfl
theorem Sim.kill (h:Sim B m σ w){l:Nat}{x:Blk}(hl:σ[l]? =some x):Sim B (m.kill l) (σ.set l .dead) w:=by
  refine h.upd (Fr.kill m w l) l (by simp[Map.kill,h.n]) (fun j hj=>⟨by rw[List.getElem?_set_ne (Ne.symm hj)],by simp[Map.kill,hj]⟩) (fun _ _ _ _=>rfl) ?_ ?_
  · rw[ZR hl];simp[Map.kill,ZAc]
  · intro j b _ _ hb;simp[Map.kill,MS.has]at hb
theorem ZCg (h : Sim B m σ w){l n sz:Nat}{es:List (List AV)}(hl : σ[l]? = some (.elems sz es))(hn : es.length = n)(hp:∀e,e∈es->AV.pure.pures e)(hx:Conc B (Av m) w m (.own l n) u):Conc B (Av (m.kill l)) w (m.kill l) (.arr es) u:=by
  obtain⟨hsz,hB,hc⟩:=h.elts hl
  rcases hc with⟨h1,rfl⟩|⟨b,ccs,ty,h1,h2,h3,h4⟩
  · cases hx with
    |ownOther l n ao co hl hk _=>have:=hk 0 (by rw[h1];rfl);omega
    |ownNil l a hl hk=>exact .arrNil a 0
    |ownArr l b sz' len cap ccs ty hl hk=>rw[h1]at hk;cases hk
  · cases hx with
    |ownOther l n ao co hl hk _=>have:=hk es.length (by rw[h1];rfl);omega
    |ownNil l a hl hk=>rw[h1]at hk;cases hk
    |ownArr l b' sz' len cap ccs' ty' hl' hk hh hcap hlen=>
      rw[h1]at hk;obtain⟨rfl,rfl,_⟩:=MS.arr.inj hk
      rw[h2]at hh;obtain⟨rfl,rfl,_⟩:=Obj.cells.inj (zQ hh)
      subst hn
      have key:∀i k,∃y,∀e x,es[i]? =some e->e[k]? =some x->ccs[i*sz+k]? =some y/\Conc B (Av (m.kill l)) w M0 x y:=by
        intro i k
        by_cases hex:∃e x,es[i]? =some e/\e[k]? =some x
        · obtain⟨e,x,he,hx⟩:=hex
          obtain⟨y,hy,hxy⟩:=h4 i e k x he hx
          refine⟨y,fun e' x' he' hx'=> ?_⟩
          rw[he]at he';obtain rfl:=zQ he'
          rw[hx]at hx';obtain rfl:=zQ hx'
          exact⟨hy,(hxy.mono (Fr.kill m w l)).toM0 (Zw (hp e (zE he)) hx)⟩
        · simp_all
      obtain⟨ys,hys⟩:=Classical.axiomOfChoice (fun i=>Classical.axiomOfChoice (key i))
      have hblk:(m.f l).has b:=by rw[h1];rfl
      refine .arr es b 0 sz cap ys hB hsz ?_ (h.lt_of_blk hblk) hlen (fun i e k x he hx=> ?_) (fun i e k x he hx=> ?_)
      · rintro(⟨j,hj⟩|ha)
        · simp only[Map.kill]at hj
          split at hj
          · simp[MS.has]at hj
          · next hne=>exact hne (h.inj j l b hj hblk)
        · exact h.sep b ⟨l,hblk⟩ ha
      · rw[ZBL h2,zO];exact(hys i k e x he hx).1
      · grind
theorem ZBY : ∀ (cs : List AV) (σ : ZE) (m : Map) (K : List AV -> ZE -> Prop), Sim B m σ w -> frz σ cs K ->
    ∀us:Nat->Value,(∀(i:Nat) (x:AV),cs[i]? =some x->Conc B (Av m) w m x (us i))->
    ∃cs' σ' m',K cs' σ'/\cs'.length=cs.length/\Sim B m' σ' w/\Fr m w m' w/\(∀(i:Nat) (x:AV),cs'[i]? =some x->Conc B (Av m') w m' x (us i))
  | [],σ,m,K,h,hk,us,hc=>⟨[],σ,m,hk,rfl,h,Fr.refl m w,fun i x hi=>by simp at hi⟩
  |c::r,σ,m,K,h,hk,us,hc=>by
    have gen:∀(hk:frz σ r (fun r' σ'=>K (c::r') σ')),∃cs' σ' m',K cs' σ'/\cs'.length=(c::r).length/\Sim B m' σ' w/\Fr m w m' w/\(∀(i:Nat) (x:AV),cs'[i]? =some x->Conc B (Av m') w m' x (us i)):=by
      intro hk
      obtain⟨cs',σ',m',hK,hlen,hs,hf,hcc⟩:=ZBY r σ m _ h hk (fun i=>us (i+1)) (fun i x hi=>hc (i+1) x (by simpa using hi))
      refine⟨c::cs',σ',m',hK,by simp[hlen],hs,hf,fun i x hi=> ?_⟩
      cases i with
      |zero=>simp at hi;subst hi;exact(hc 0 c (by simp)).mono hf
      |succ i=>exact hcc i x (by simpa using hi)
    cases c with
    |own l n=>
      simp only[frz]at hk
      split at hk
      · next sz es he=>
        obtain⟨hn,hp,hk⟩:=hk
        have hs1:=h.kill he
        have hf1:=Fr.kill m w l
        obtain⟨cs',σ',m',hK,hlen,hs,hf,hcc⟩:=ZBY r (σ.set l .dead) (m.kill l) _ hs1 hk (fun i=>us (i+1)) (fun i x hi=>(hc (i+1) x (by simpa using hi)).mono hf1)
        refine⟨.arr es::cs',σ',m',hK,by simp[hlen],hs,hf1.trans hf h.mapOk,fun i x hi=> ?_⟩
        cases i with
        |zero=>simp at hi;subst hi;exact(ZCg h he hn hp (hc 0 _ (by simp))).mono hf
        |succ i=>exact hcc i x (by simpa using hi)
      · exact hk.elim
    |lit v=>exact gen hk
    |junk=>exact gen hk
    |arr es=>exact gen hk
    |rptr e o=>exact gen hk
    |ptr l o=>exact gen hk
    |eptr l n i o=>exact gen hk
    |pre l n k=>exact gen hk
    |agg cs=>exact gen hk
    |tup cs=>exact gen hk
    |fn f xs ys=>exact gen hk
theorem ZKy (v:List Value):∀(j off:Nat) (cs:Array Value),(v.zipIdx j).foldl (fun cs (c,j)=>cs.setIfInBounds (off+j) c) cs=wrArr cs (off+j) v:=by
  induction v with
  |nil=>intro j off cs;rfl
  |cons c r ih=>intro j off cs;simp only[List.zipIdx_cons,List.foldl_cons,wrArr];rw[ih];rfl
theorem ZFc (v:Array Value)(off:Nat)(cs:Array Value):v.zipIdx.foldl (fun cs (c,j)=>cs.setIfInBounds (off+j) c) cs=wrArr cs off v.toList:=by
  rw[←Array.foldl_toList,Array.toList_zipIdx,ZKy];rfl
def RelC (B:Nat)(m:Map)(w:World)(cs:List AV)(us:Array Value):Prop:=
  us.size=cs.length/\∀(i:Nat) (x:AV),cs[i]? =some x->∃y:Value,us[i]? =some y/\Conc B (Av m) w m x y
variable {us:Array Value}
theorem RelC.wr {cs new:List AV}{vs:Array Value}(h : RelC B m w cs us)(hv : RelC B m w new vs){off:Nat}{K:List AV -> Prop}(hk : wrE cs off new K) :
    ∃cs',K cs'/\off+new.length<=cs.length/\RelC B m w cs' (wrArr us off vs.toList):=by
  obtain⟨cs',hK,hl,hle,hget⟩:=ZF7 hk
  refine⟨cs',hK,hle,by rw[Zt,h.1,hl],fun i x hi=> ?_⟩
  have hvl:vs.toList.length=new.length:=by simpa using hv.1
  rw[ZA2 _ _ _ _ (by rw[h.1,hvl];exact hle),hvl]
  rcases hget i x hi with⟨a1,a2,a3⟩|⟨a1,a3⟩
  · rw[iP ⟨a1,a2⟩]
    obtain⟨y,hy,hc⟩:=hv.2 _ x a3
    grind
  · rw[iN a1]
    exact h.2 i x a3
theorem ZIt {cs:List AV}(hlen:us.size=cs.length)(hc:∀(i:Nat) (y:AV),cs[i]? =some y->Conc B (Av m) w m y (us.getD i undef)):RelC B m w cs us:=
  ⟨hlen,fun i x hi=>by have:=cells_list hlen hc i x hi;simpa using this⟩
theorem ZEN (h:Sim B m σ w){place:Nat->Option (Nat×Nat)}:∀(parts:List (Nat×AV)) (vals:List (Nat×Value)) (cs:List AV) (us:Array Value) (K:List AV->Prop),
    RelC B m w cs us->parts.length=vals.length->(∀(i:Nat) p q,parts[i]? =some p->vals[i]? =some q->p.1=q.1/\Conc B (Av m) w m p.2 q.2)->
    ZBg place σ cs parts K->∃cs' us',K cs'/\yG place us vals=some us'/\RelC B m w cs' us'
  | [],[],cs,us,K,hr,_,_,hk=>⟨cs,us,hk,rfl,hr⟩
  | [],_::_,_,_,_,_,hl,_,_=>by simp at hl
  |_::_,[],_,_,_,_,hl,_,_=>by simp at hl
  |(i,x)::parts,(j,v)::vals,cs,us,K,hr,hl,hp,hk=>by
    obtain⟨h1,h2⟩:=hp 0 (i,x) (j,v) (by simp) (by simp)
    simp only at h1 h2;subst h1
    simp only[ZBg]at hk
    split at hk
    · next off size hpl=>
      obtain⟨new,⟨hs,hw⟩,hlen,hc⟩:=ZAv h hk h2
      obtain⟨cs1,hk1,hle,hr1⟩:=hr.wr (ZIt hlen hc) hw
      obtain⟨cs',us',hK,hf,hr'⟩:=ZEN h parts vals cs1 _ K hr1 (by simpa using hl) (fun i p q hi hq=>hp (i+1) p q (by simpa using hi) (by simpa using hq)) hk1
      refine⟨cs',us',hK,?_,hr'⟩
      have hb:(decide (v.cells.size≠size)||decide (off+v.cells.size>us.size))=false:=by
        simp[hlen,hs,hr.1];omega
      simp only[yG,hpl]
      rw[iN (by simpa using hb),ZFc]
      exact hf
    · exact hk.elim
theorem ZDK {fs : Array Field} (hs : ∀ p, p ∈ fs.toList.map (fun f => (f.offset, P.cellsOf f.type)) -> p.2 ≠ 0) :
    (fs.mapM fun f=>Prod.mk f.offset<$>sizeOf f.type:Sem (Array (Nat×Nat))).run P w=.ok (fs.toList.map fun f=>(f.offset,P.cellsOf f.type)).toArray w:=by
  have key : ∀ (l : List Field) (w : World), (∀ p, p ∈ l.map (fun f => (f.offset, P.cellsOf f.type)) -> p.2 ≠ 0) ->
      (l.mapM fun f=>Prod.mk f.offset<$>sizeOf f.type:Sem (List (Nat×Nat))).run P w=.ok (l.map fun f=>(f.offset,P.cellsOf f.type)) w:=by
    intro l
    induction l with
    |nil=>intro w _;simp
    |cons f r ih=>
      intro w hp
      have h1:P.cellsOf f.type≠0:=hp (f.offset,P.cellsOf f.type) (by simp)
      obtain⟨k,hk⟩:∃k,P.cellsOf f.type=k+1:=⟨P.cellsOf f.type-1,by omega⟩
      have:=ih w (fun p hp'=>hp p (by simp at hp' ⊢;exact .inr hp'))
      simp[List.mapM_cons,ZBJ hk,this,hk]
  rw[Array.mapM_eq_mapM_toList]
  simp[key fs.toList w hs]
theorem ZBi {ti:TypeInfo}(h1:P.info? t=some ti)(h2:ZAa ti≠[]):∃v,(zeroValue t).run P w=.ok v w/\v.cells.toList=ZAa ti:=by
  unfold ZAa at h2 ⊢
  cases hz:ti.zero with
  |none=>simp[hz]at h2
  |some v=>exact⟨v,by simp[zeroValue,typeInfo,h1,hz],rfl⟩
theorem ZDN (us:Array Value):RelC B m w (us.toList.map .lit) us:=by
  refine⟨by simp,fun i x hi=> ?_⟩
  simp only[zF,zR]at hi
  obtain⟨v,hv,rfl⟩:=hi
  exact⟨v,by simpa using hv,.lit v⟩
theorem ZIR (cs : List AV) (σ : ZE) (m : Map) (K : List AV -> ZE -> Prop) (h : Sim B m σ w) (hk : bfrz σ cs K)
    (us:Nat->Value) (hc:∀(i:Nat) (x:AV),cs[i]? =some x->Conc B (Av m) w m x (us i)):
    ∃cs' σ' m',K cs' σ'/\cs'.length=cs.length/\Sim B m' σ' w/\Fr m w m' w/\(∀(i:Nat) (x:AV),cs'[i]? =some x->Conc B (Av m') w m' x (us i)):=by
  unfold bfrz at hk
  split at hk
  · exact⟨cs,σ,m,hk,rfl,h,Fr.refl m w,hc⟩
  · exact ZBY cs σ m K h hk us hc
theorem ZF3 (h : Sim B m σ w){parts:List (Nat × AV)}{K:AV -> ZE -> Prop}(hk : ZBz P t σ parts K){vals:Array (Nat × Value)}(hl:parts.length=vals.size)(hp:∀(i:Nat) p q,parts[i]? =some p->vals[i]? =some q->p.1=q.1/\Conc B (Av m) w m p.2 q.2):
    Good B m w K ((Instr.build t vals).run P w):=by
  unfold ZBz at hk
  split at hk
  · next offs sz z hti=>
    obtain⟨h1,h2,hk⟩:=hk
    obtain⟨fs,g1,g2⟩:=ZE6 hti
    obtain⟨d,ti,_,g3,_,_,g4⟩:=ZCv hti
    simp only at g4;subst g4 g2
    obtain⟨zv,hz1,hz2⟩:=ZBi (P:=P) (w:=w) g3 h2
    rw[←hz2]at hk
    obtain⟨cs,us,hK,hf,hr⟩:=ZEN h parts vals.toList _ zv.cells _ (ZDN zv.cells) (by simpa using hl) (fun i p q hi hq=>hp i p q hi (by simpa using hq)) hk
    obtain⟨cs',σ',m',hK',hlen,hs,hfr,hc⟩:=ZIR cs σ m _ h hK (fun i=>us.getD i undef) (fun i x hi=>by
      obtain⟨y,hy,hxy⟩:=hr.2 i x hi
      have:us.getD i undef=y:=by simp[zT,hy]
      rw[this];exact hxy)
    refine⟨.agg us,.agg cs',σ',m',w,?_,hK',hs,.agg cs' us (by rw[hr.1,hlen]) hc,hfr⟩
    have hf':yG (fun x=>((fs.toList.map fun f=>(f.offset,P.cellsOf f.type)).toArray)[x]?) zv.cells vals.toList=some us:=by
      simpa using hf
    simp[Instr.build,hz1,ZG g1,ZDK h1]
    simp at hf'
    rw[hf'];rfl
  · next n s sz z hti=>
    obtain⟨h1,h2,hk⟩:=hk
    obtain⟨e,g1,g2⟩:=ZHF hti
    obtain⟨d,ti,_,g3,_,_,g4⟩:=ZCv hti
    simp only at g4;subst g4
    obtain⟨zv,hz1,hz2⟩:=ZBi (P:=P) (w:=w) g3 h2
    rw[←hz2]at hk
    have hr:=ZDN (B:=B) (m:=m) (w:=w) zv.cells
    have hv:vals=#[]:=by
      rw[h1]at hl
      exact zS hl.symm
    subst hv
    refine Good.same h hk (u:=.agg zv.cells) (.agg _ zv.cells (by simp) fun i x hi=> ?_) ?_
    · obtain⟨y,hy,hxy⟩:=hr.2 i x hi
      have:zv.cells.getD i undef=y:=by simp[zT,hy]
      rw[this];exact hxy
    · simp[Instr.build,hz1,ZG g1,ZBJ g2,yG]
  · exact hk.elim
end
end Go.Vl
namespace Go.Vl
open Go
open Go.Instr renaming fill->yH,buildSlice->yI,makeSlice->yJ
section
variable {P : Program} {B : Nat} {w : World} {m : Map} {σ : ZE}
theorem ZEJ :∀(es:List (List AV)) (σ:ZE) (m:Map) (K:List (List AV)->ZE->Prop),Sim B m σ w->ZKt σ es K->
  ∀us:Nat->Nat->Value,(∀(i:Nat) (e:List AV) (k:Nat) (x:AV),es[i]? =some e->e[k]? =some x->Conc B (Av m) w m x (us i k))->
  ∃es' σ' m',K es' σ'/\es'.length=es.length/\(∀(i:Nat) (e':List AV),es'[i]? =some e'->∃e,es[i]? =some e/\e'.length=e.length)/\Sim B m' σ' w/\Fr m w m' w/\
   (∀(i:Nat) (e:List AV) (k:Nat) (x:AV),es'[i]? =some e->e[k]? =some x->Conc B (Av m') w m' x (us i k))
 | [],σ,m,K,h,hk,us,hc=>⟨[],σ,m,hk,rfl,fun i e hi=>by simp at hi,h,Fr.refl m w,fun i e k x hi=>by simp at hi⟩
 |e::r,σ,m,K,h,hk,us,hc=>by
  obtain⟨e',σ1,m1,hk1,hl1,hs1,hf1,hc1⟩:=ZBY e σ m _ h hk (us 0) (fun k x hk=>hc 0 e k x (by simp) hk)
  obtain⟨r',σ2,m2,hK,hl2,hl3,hs2,hf2,hc2⟩:=ZEJ r σ1 m1 _ hs1 hk1 (fun i=>us (i+1)) (fun i e k x hi hk=>(hc (i+1) e k x (by simpa using hi) hk).mono hf1)
  refine⟨e'::r',σ2,m2,hK,by simp[hl2],fun i e'' hi=> ?_,hs2,hf1.trans hf2 h.mapOk,fun i e'' k x hi hk=> ?_⟩
  ·grind
  ·cases i with
   |zero=>simp at hi;subst hi;exact(hc1 k x hk).mono hf2
   |succ i=>exact hc2 i e'' k x (by simpa using hi) hk
theorem ZEP (h:Sim B m σ w)(sz:Nat):∀(parts:List (Nat×AV)) (vals:List (Nat×Value)) (j:Nat) (us:Array Value) (K:List (List AV)->Prop),
  parts.length=vals.length->(∀(i:Nat) p q,parts[i]? =some p->vals[i]? =some q->p.1=q.1/\Conc B (Av m) w m p.2 q.2)->(j+parts.length)*sz<=us.size->
  ZBy σ sz j parts K->∃es us',K es/\yH (fun i=>some (i*sz,sz)) us vals=some us'/\us'.size=us.size/\es.length=parts.length/\(∀e,e∈es->e.length=sz)/\
   (∀(i:Nat) (e:List AV) (k:Nat) (x:AV),es[i]? =some e->e[k]? =some x->∃y:Value,us'[(j+i)*sz+k]? =some y/\Conc B (Av m) w m x y)/\
   (∀p,p<j*sz->us'[p]? =us[p]?)
 | [],[],j,us,K,_,_,_,hk=>⟨[],us,hk,rfl,rfl,rfl,fun e he=>by simp at he,fun i e k x hi=>by simp at hi,fun p _=>rfl⟩
 | [],_::_,_,_,_,hl,_,_,_=>by simp at hl
 |_::_,[],_,_,_,hl,_,_,_=>by simp at hl
 |(i,x)::parts,(i',v)::vals,j,us,K,hl,hp,hsz,hk=>by
  obtain⟨h1,h2⟩:=hp 0 (i,x) (i',v) (by simp) (by simp)
  simp only at h1 h2;subst h1
  obtain⟨rfl,hk⟩:=hk
  obtain⟨e,⟨hs,hk⟩,hlen,hc⟩:=ZAv h hk h2
  have hre:=ZIt hlen hc
  have hsz':(i+1+parts.length)*sz<=(wrArr us (i*sz) v.cells.toList).size:=by
   rw[Zt];simp only[zH]at hsz;rw[show i+1+parts.length=i+(parts.length+1) by omega];exact hsz
  have h1sz:i*sz+sz<=us.size:=by
   have:(i+1)*sz<=(i+(parts.length+1))*sz:=zL sz (by omega)
   rw[zN,zM]at this
   simp only[zH]at hsz;omega
  obtain⟨es,us',hK,hf,g1,g2,g3,g4,g5⟩:=ZEP h sz parts vals (i+1) _ _ (by simpa using hl) (fun k p q hi hq=>hp (k+1) p q (by simpa using hi) (by simpa using hq)) hsz' hk
  have hvl:v.cells.toList.length=sz:=by simp[hlen,hs]
  refine⟨e.map (Vl.nzs σ)::es,us',hK,?_,by rw[g1,Zt],by simp[g2],fun e' he'=> ?_,fun k e' k' x' hi hk'=> ?_,fun p hp'=> ?_⟩
  ·simp only[yH]
   rw[iN (by simp[hlen,hs];omega),ZFc]
   exact hf
  ·grind
  ·cases k with
   |zero=>
    simp at hi;subst hi
    rw[zF,zR]at hk'
    obtain⟨x0,hk',rfl⟩:=hk'
    have hk2:k'<sz:=by rw[←hs];exact(zC.1 hk').1
    rw[zP,g5 _ (by rw[zN,zM];omega),ZA2 _ _ _ _ (by rw[hvl];exact h1sz),hvl,iP (by omega)]
    obtain⟨y,hy,hc'⟩:=hre.2 k' x0 hk'
    exact⟨y,by rw[Nat.add_sub_cancel_left];simpa using hy,hc'.nzs σ⟩
   |succ k=>grind
  ·rw[g5 p (by rw[zN,zM];omega),ZA2 _ _ _ _ (by rw[hvl];exact h1sz),iN (by omega)]
theorem ZGv (es:List (List AV))(σ:ZE)(m:Map)(K:List (List AV)->ZE->Prop)(h:Sim B m σ w)(hk:bfrzs σ es K)
  (us:Nat->Nat->Value) (hc:∀(i:Nat) (e:List AV) (k:Nat) (x:AV),es[i]? =some e->e[k]? =some x->Conc B (Av m) w m x (us i k)):
  ∃es' σ' m',K es' σ'/\es'.length=es.length/\(∀(i:Nat) (e':List AV),es'[i]? =some e'->∃e,es[i]? =some e/\e'.length=e.length)/\Sim B m' σ' w/\Fr m w m' w/\
   (∀(i:Nat) (e:List AV) (k:Nat) (x:AV),es'[i]? =some e->e[k]? =some x->Conc B (Av m') w m' x (us i k)):=by
 unfold bfrzs at hk
 split at hk
 ·exact⟨es,σ,m,hk,rfl,fun i e hi=>⟨e,hi,rfl⟩,h,Fr.refl m w,hc⟩
 ·exact ZEJ es σ m K h hk us hc
variable {K:AV->ZE->Prop}
theorem ZCt (h:Sim B m σ w){t:TypeId}{len:Nat}{parts:List (Nat×AV)}(hk:ZAG P B t σ len parts K){vals:Array (Nat×Value)}(hl:parts.length=vals.size)(hp:∀(i:Nat) p q,parts[i]? =some p->vals[i]? =some q->p.1=q.1/\Conc B (Av m) w m p.2 q.2):
  Good B m w K ((yI t len vals).run P w):=by
 unfold ZAG at hk
 split at hk
 ·next sz by_ z size z' hti=>
  obtain⟨h1,h2,h3,h4,h5,hk⟩:=hk
  obtain⟨e,ie,g1,g2,g3,g4,g5⟩:=ZBk hti
  subst g5
  have hz0:ZAa ie≠[]:=by intro hz;rw[hz]at h4;exact h5 h4.symm
  obtain⟨zv,hz1,hz2⟩:=ZBi (P:=P) (w:=w) g2 hz0
  have hsz:(sizeOf e).run P w=.ok sz w:=by simp[sizeOf,typeInfo,g2,g3]
  generalize hzs:(zU (len*sz)).map (fun x=>if len*sz=0 then(#[]:Array Value)[x% (#[]:Array Value).size]! else zv.cells[x%zv.cells.size]!)=us0
  have hus0:us0.size=len*sz:=by rw[←hzs];simp
  obtain⟨es,us,hK,hf,k1,k2,k3,k4,_⟩:=ZEP h sz parts vals.toList 0 us0 _ (by simpa using hl) (fun i p q hi hq=>hp i p q hi (by simpa using hq)) (by rw[hus0,h1];simp) hk
  obtain⟨es',σ',m',hK',l1,l2,hs,hfr,hc⟩:=ZGv es σ m _ h hK (fun i k=>us.getD (i*sz+k) undef) (fun i e k x hi hk=>by
   obtain⟨y,hy,hxy⟩:=k4 i e k x hi hk
   rw[zO]at hy
   have:us.getD (i*sz+k) undef=y:=by simp[zT,hy]
   rw[this];exact hxy)
  have hes:∀e,e∈es'->e.length=sz:=by
   intro e' he'
   obtain⟨i,hi⟩:=List.getElem?_of_mem he'
   grind
  have hlen':es'.length=len:=by rw[l1,k2,h1]
  obtain⟨hf2,hs2⟩:=hs.elems sz es' us e (w':=w) (.inl rfl) hes (by rw[hlen'];exact h3) (by rw[hlen',k1,hus0];exact zK _)
   (fun i e k x hi hk=>by
    have hcc:=hc i e k x hi hk
    have hi':i<es'.length:=(zC.1 hi).1
    have hk':k<sz:=by rw[←hes e (zE hi)];exact(zC.1 hk).1
    have hb:i*sz+k<us.size:=by
     rw[k1,hus0]
     have:(i+1)*sz<=len*sz:=zL sz (by omega)
     grind
    refine⟨us[i*sz+k],by simp[hb],?_⟩
    have:us.getD (i*sz+k) undef=us[i*sz+k]:=by simp[Array.getD,hb]
    rw[this]at hcc;exact hcc)
  refine⟨.slice (some ⟨w.heap.size,0,none⟩) len len,_,_,_,_,?_,hK',hs2,?_,hfr.trans hf2 h.mapOk⟩
  ·have hf':yH (fun i=>some (i*sz,sz)) ((zU (len*sz)).map (fun x=>if len*sz=0 then(#[]:Array Value)[x% (#[]:Array Value).size]! else zv.cells[x%zv.cells.size]!)) vals.toList=some us:=by rw[hzs];exact hf
   simp only[yI,Sem.run_bind,ZG g1,Result.andThen_ok,hsz]
   rw[iN (by omega)]
   by_cases h0:len*sz=0
   ·have e0:∀f:Nat->Value,(zU 0).map f=#[]:=fun f=>by apply zS;simp
    simp only[h0,if_true,e0]at hf'
    simp[h0,e0,hf',newRow]
   ·simp only[h0,if_false]at hf'
    simp[h0,hf',newRow,hz1]
  ·have hmn:m'.n=σ'.length:=hs.n
   rw[←hmn]
   have:=Conc.ownArr (B:=B) (W:=Av (m'.push (.arr w.heap.size sz es'.length))) (w:=w.alloc (.cells us e)) (m:=m'.push (.arr w.heap.size sz es'.length)) m'.n w.heap.size sz es'.length es'.length us e
    (by simp[Map.push]) (Map.push_new _ _) (ZBB w _) (by rw[hlen',k1,hus0];exact zK _) (zK _) id
   grind
 ·exact hk.elim
theorem ZC7 (h:Sim B m σ w){t:TypeId}{l c:AV}(hk:ZAT P B t σ l c K){u v:Value}(hx:Conc B (Av m) w m l u)(hy:Conc B (Av m) w m c v):Good B m w K ((yJ t u v).run P w):=by
 unfold ZAT at hk
 split at hk
 ·next sz bytes z size z' k n k' n' hti=>
  obtain⟨rfl,h0,hmax,hb,hB,hz,hsz0,hK⟩:=hk
  obtain rfl:=Conc.lit_inv hx
  obtain rfl:=Conc.lit_inv hy
  obtain⟨e,ie,g1,g2,g3,g4,g5⟩:=ZBk hti
  subst g5
  obtain⟨a,rfl⟩:∃a:Nat,n=a:=⟨n.toNat,by omega⟩
  simp only[Int.toNat_natCast]at hB hK
  have hz0:ZAa ie≠[]:=by intro hz';rw[hz']at hz;exact hsz0 hz.symm
  obtain⟨zv,hz1,hz2⟩:=ZBi (P:=P) (w:=w) g2 hz0
  have hsz:(sizeOf e).run P w=.ok sz w:=by simp[sizeOf,typeInfo,g2,g3]
  have hwrap:IntKind.i64.wrap (a:Int)=(a:Int):=by
   simp only[IntKind.wrap,IntKind.bits,IntKind.signed];simp;omega
  have hzs:zv.cells.size=sz:=by rw[←hz,←hz2];simp
  generalize hus:(zU (a*sz)).map (fun x=>if a*sz=0 then(#[]:Array Value)[x% (#[]:Array Value).size]! else zv.cells[x%zv.cells.size]!)=us
  have hus0:us.size=a*sz:=by rw[←hus];simp
  have hes:∀e,e∈zJ a (((ZAa ie).map AV.lit).map (Vl.nzs σ))->e.length=sz:=by grind
  obtain⟨hf2,hs2⟩:=h.elems sz (zJ a (((ZAa ie).map AV.lit).map (Vl.nzs σ))) us e (w':=w) (.inl rfl) hes (by simpa using hB) (by simp[hus0])
   (fun i e' k x hi hk=>by
    have hi':i<a:=by have:=(zC.1 hi).1;simpa using this
    have he':e'=((ZAa ie).map AV.lit).map (Vl.nzs σ):=List.eq_of_mem_replicate (zE hi)
    subst he'
    have hk':k<sz:=by have:=(zC.1 hk).1;rw[←hz];simpa using this
    have hb:i*sz+k<a*sz:=by
     have:(i+1)*sz<=a*sz:=zL sz (by omega)
     grind
    have hne:¬a*sz=0:=by omega
    refine⟨zv.cells[k]'(by omega),?_,?_⟩
    ·rw[←hus]
     have hmod:(i*sz+k)%sz=k:=by rw[Nat.mul_comm,Nat.mul_add_mod];exact Nat.mod_eq_of_lt hk'
     grind
    ·rw[←hz2]at hk
     simp only[zF,zR]at hk
     obtain⟨_,⟨y,hy,rfl⟩,rfl⟩:=hk
     have:zv.cells[k]? =some y:=by simpa using hy
     have hk2:k<zv.cells.size:=by omega
     rw[Array.getElem?_eq_getElem hk2]at this
     obtain rfl:=zQ this
     exact(Conc.lit _).nzs σ)
  refine⟨.slice (some ⟨w.heap.size,0,none⟩) a a,_,_,_,_,?_,hK,hs2,?_,hf2⟩
  ·have c1:¬((a:Int)<0):=by omega
   have c2:¬(281474976710656<(bytes:Int)*(a:Int)):=by omega
   simp only[yJ,Sem.run_bind,ZG g1,Result.andThen_ok]
   simp[asInt,asIntOf,typeInfo,g2,g4,hwrap,c1,c2,hsz]
   by_cases hz:a*sz=0
   ·have e0:∀f:Nat->Value,(zU 0).map f=#[]:=fun f=>by apply zS;simp
    have:us=#[]:=by apply zS;omega
    simp[hz,this,e0,newRow]
   ·simp only[hz,if_false]at hus
    simp[hz1,hus,newRow]
    exact fun h=>absurd h hz
  ·have hmn:m.n=σ.length:=h.n
   rw[←hmn]
   have:=Conc.ownArr (B:=B) (W:=Av (m.push (.arr w.heap.size sz a))) (w:=w.alloc (.cells us e)) (m:=m.push (.arr w.heap.size sz a)) m.n w.heap.size sz a a us e
    (by simp[Map.push]) (Map.push_new _ _) (ZBB w _) (by rw[hus0];exact zK _) (zK _) id
   simpa using this
 ·exact hk.elim
end
end Go.Vl
