/- The plain law of FnGuardFree. -/
import Derived.Test.YtkgcopogpmckdaaGreatGuardFreeB
set_option linter.all false
set_option maxRecDepth 100000
namespace Go.Vl
open Go Go.RowKit
def gtList :List ByteArray:=[⟨#[67,111,110,115,40,97,44,95,41,32,97,60,51]⟩,⟨#[67,111,110,115,40,97,64,50,45,53,44,98,41,32,97,61,52]⟩,⟨#[67,111,110,115,40,97,64,40,49,124,55,41,44,95,41,32,97,60,53]⟩,⟨#[67,111,110,115,40,97,44,67,111,110,115,40,98,44,95,41,41,32,98,60,48]⟩,⟨#[40,67,111,110,115,40,97,44,78,105,108,41,124,67,111,110,115,40,95,44,67,111,110,115,40,97,44,95,41,41,41,32,97,61,50]⟩,⟨#[67,111,110,115,40,97,64,51,44,95,41,32,97,61,52]⟩]
theorem gt0 :headOk (F.f89 W0 ⟨0,0⟩ ⟨#[67,111,110,115,40,97,44,95,41,32,97,60,51]⟩)=true:=by
  have h:headOk (E.f89 200 W0 ⟨0,0⟩ ⟨#[67,111,110,115,40,97,44,95,41,32,97,60,51]⟩)=true:=by kernel_rfl
  obtain⟨l,b,c,e,_⟩:=head_of h
  rw[E.f89_le 200 _ _ _ _ e,←e];exact h
theorem gt1 :headOk (F.f89 W0 ⟨0,0⟩ ⟨#[67,111,110,115,40,97,64,50,45,53,44,98,41,32,97,61,52]⟩)=true:=by
  have h:headOk (E.f89 200 W0 ⟨0,0⟩ ⟨#[67,111,110,115,40,97,64,50,45,53,44,98,41,32,97,61,52]⟩)=true:=by kernel_rfl
  obtain⟨l,b,c,e,_⟩:=head_of h
  rw[E.f89_le 200 _ _ _ _ e,←e];exact h
theorem gt2 :headOk (F.f89 W0 ⟨0,0⟩ ⟨#[67,111,110,115,40,97,64,40,49,124,55,41,44,95,41,32,97,60,53]⟩)=true:=by
  have h:headOk (E.f89 200 W0 ⟨0,0⟩ ⟨#[67,111,110,115,40,97,64,40,49,124,55,41,44,95,41,32,97,60,53]⟩)=true:=by kernel_rfl
  obtain⟨l,b,c,e,_⟩:=head_of h
  rw[E.f89_le 200 _ _ _ _ e,←e];exact h
theorem gt3 :headOk (F.f89 W0 ⟨0,0⟩ ⟨#[67,111,110,115,40,97,44,67,111,110,115,40,98,44,95,41,41,32,98,60,48]⟩)=true:=by
  have h:headOk (E.f89 200 W0 ⟨0,0⟩ ⟨#[67,111,110,115,40,97,44,67,111,110,115,40,98,44,95,41,41,32,98,60,48]⟩)=true:=by kernel_rfl
  obtain⟨l,b,c,e,_⟩:=head_of h
  rw[E.f89_le 200 _ _ _ _ e,←e];exact h
theorem gt4 :headOk (F.f89 W0 ⟨0,0⟩ ⟨#[40,67,111,110,115,40,97,44,78,105,108,41,124,67,111,110,115,40,95,44,67,111,110,115,40,97,44,95,41,41,41,32,97,61,50]⟩)=true:=by
  have h:headOk (E.f89 200 W0 ⟨0,0⟩ ⟨#[40,67,111,110,115,40,97,44,78,105,108,41,124,67,111,110,115,40,95,44,67,111,110,115,40,97,44,95,41,41,41,32,97,61,50]⟩)=true:=by kernel_rfl
  obtain⟨l,b,c,e,_⟩:=head_of h
  rw[E.f89_le 200 _ _ _ _ e,←e];exact h
theorem gt5 :headOk (F.f89 W0 ⟨0,0⟩ ⟨#[67,111,110,115,40,97,64,51,44,95,41,32,97,61,52]⟩)=true:=by
  have h:headOk (E.f89 200 W0 ⟨0,0⟩ ⟨#[67,111,110,115,40,97,64,51,44,95,41,32,97,61,52]⟩)=true:=by kernel_rfl
  obtain⟨l,b,c,e,_⟩:=head_of h
  rw[E.f89_le 200 _ _ _ _ e,←e];exact h
theorem P.guardTexts {v:Int}(h0:0≤v)(h1:v<6):∃x l b c,at? gtList v=some x∧F.f89 W0 ⟨0,0⟩ x=some (l,b)∧l[0]? =some c∧c.pat.wt≤1048576:=by
  have hv:v=0∨v=1∨v=2∨v=3∨v=4∨v=5:=by omega
  rcases hv with rfl|rfl|rfl|rfl|rfl|rfl
  · obtain⟨l,b,c,e⟩:=head_of gt0;exact⟨_,l,b,c,rfl,e⟩
  · obtain⟨l,b,c,e⟩:=head_of gt1;exact⟨_,l,b,c,rfl,e⟩
  · obtain⟨l,b,c,e⟩:=head_of gt2;exact⟨_,l,b,c,rfl,e⟩
  · obtain⟨l,b,c,e⟩:=head_of gt3;exact⟨_,l,b,c,rfl,e⟩
  · obtain⟨l,b,c,e⟩:=head_of gt4;exact⟨_,l,b,c,rfl,e⟩
  · obtain⟨l,b,c,e⟩:=head_of gt5;exact⟨_,l,b,c,rfl,e⟩
theorem P.guardNever_of {w:List Data}{t:Ty}{c:Clause}{out:Clause}(h:F.f172 w t c=some (out,true)):F.f197 w t c=some false:=by
  unfold F.f172 at h
  unfold F.f197
  cases hv:F.f161 w t c with
  |none=>rw[hv]at h;cases h
  |some v=>
    rw[hv]at h
    simp only[Option.bind_eq_bind,Option.bind_some]at h ⊢
    by_cases h1:v=true
    · rw[if_pos h1]at h ⊢
      by_cases h2:c.guard.op=0
      · rw[if_pos h2]
      · rw[if_neg h2]at h ⊢
        cases hg:F.f170 c with
        |none=>rw[hg]at h;cases h
        |some g=>
          rw[hg]at h
          simp only[Option.bind_some]at h ⊢
          by_cases h3:g.2.1=true
          · rw[if_pos h3]at h ⊢
            by_cases h4:g.2.2=true
            · rw[h4];rfl
            · rw[if_neg h4]at h;cases h
          · rw[if_neg h3]
    · rw[if_neg h1]
theorem P.guardAgain {w:List Data}(hw:smallW w){t:Ty}{c:Clause}(hp:c.pat.wt≤200)(hv:clValid w t c)(hg:c.guard=⟨0,0,0⟩):F.f172 w t c=some (c,true):=by
  unfold F.f172
  rw[P.impl_ClauseValid w hw t c (by omega)]
  simp only[Option.bind_eq_bind,Option.bind_some]
  rw[if_pos (dec_of hv),if_pos (by rw[hg]),P.impl_ownPattern c.pat (by omega)]
  simp only[Option.bind_some]
  rw[←hg]
theorem P.DrawGuardPattern (code:List Int)(hc:bytesOk code):∃w t c,F.f117 code=some (w,t,c)∧smallW w∧c.pat.wt≤1048576:=by
  obtain⟨w,t,c,e,hw,hp⟩:=P.DrawClauseValid code hc
  unfold F.f117
  split
  · rw[if_pos (by omega)]
    obtain⟨v,r1,e1,h1,_⟩:=P.pick (rok_cut hc) (by omega) 2
    rw[e1]
    simp only[Option.bind_eq_bind,Option.bind_some]
    split
    · rw[W0_parse]
      simp only[Option.bind_some]
      obtain⟨v2,r2,e2,h2,a2,b2,_⟩:=P.pick h1 (by omega) 6
      rw[e2]
      simp only[Option.bind_some]
      obtain⟨x,l,b,c,f1,f2,f3,f4⟩:=P.guardTexts a2 (b2 (by omega))
      unfold gtList at f1
      rw[f1]
      simp only[Option.bind_some]
      rw[f2]
      simp only[Option.bind_some]
      rw[f3]
      exact⟨_,_,_,rfl,worlds_small (by simp[worlds]),f4⟩
    · rw[e];exact⟨_,_,_,rfl,hw,hp⟩
  · obtain⟨v,r1,e1,h1,_⟩:=P.pick (rok_open hc (by omega)) (by omega) 2
    rw[e1]
    simp only[Option.bind_eq_bind,Option.bind_some]
    split
    · rw[W0_parse]
      simp only[Option.bind_some]
      obtain⟨v2,r2,e2,h2,a2,b2,_⟩:=P.pick h1 (by omega) 6
      rw[e2]
      simp only[Option.bind_some]
      obtain⟨x,l,b,c,f1,f2,f3,f4⟩:=P.guardTexts a2 (b2 (by omega))
      unfold gtList at f1
      rw[f1]
      simp only[Option.bind_some]
      rw[f2]
      simp only[Option.bind_some]
      rw[f3]
      exact⟨_,_,_,rfl,worlds_small (by simp[worlds]),f4⟩
    · rw[e];exact⟨_,_,_,rfl,hw,hp⟩
theorem P.FnGuardFree (code:List Int)(hc:bytesOk code):F.f198 code=some true:=by
  unfold F.f198
  split
  · rfl
  obtain⟨w,t,c,e,hw,hp⟩:=P.DrawGuardPattern code hc
  rw[e]
  simp only[Option.bind_eq_bind,Option.bind_some]
  obtain⟨⟨out,b⟩,e1,e2,e3,e4⟩:=P.GuardPattern_same w hw t c hp
  rw[e1,e2]
  simp only[Option.bind_some]
  simp only[if_true,P.clausesSame_refl,Option.bind_some]
  by_cases hb:b=true
  · subst hb
    rw[if_pos rfl]
    obtain⟨hv,hg⟩:=e4 rfl
    have hv:clValid w t out:=hv
    have hg:out.guard=⟨0,0,0⟩:=hg
    rw[P.guardAgain hw e3 hv hg]
    simp only[if_true,P.clausesSame_refl,Option.bind_some,P.guardNever_of e2]
    rfl
  · rw[if_neg hb]
end Go.Vl
