/- A part of the proof. -/
import Derived.Test.YtnmbhmbljbhonaaGreatExpandNodesB
set_option linter.all false
namespace Go.Vl
open Go Go.RowKit
open Go.IntKind (i64)
theorem P.FnExpandNodes (code:List Int)(hc:ZA5 code):F.f225 code=some true:=by
  unfold F.f225
  split
  · rfl
  obtain⟨l,e,hl,hw⟩:=P.YA0 code hc
  unfold F.f171
  rw[e]
  simp only[oE,oS]
  unfold F.f187 F.f193
  rw[P.Yl l (by omega),P.Yk l]
  simp only[oE,oS]
  by_cases hv:1<=l.length/\l.length<=300/\∀j (h:j<l.length),nodeOk j l[j]
  · rw[if_pos (ZI hv),if_pos (ZI hv)]
    have hidx:i64.wrap ((l.length:Int) -1)=((l.length-1:Nat):Int):=by rw[ZG (by omega) (by omega)];omega
    obtain⟨f,hf⟩:∃f:Nat->Tree,∀j,j<l.length->Rep l j (f j):=Classical.axiomOfChoice (r:=fun j y=>j<l.length->Rep l j y) fun j=>by
      by_cases hj:j<l.length
      · obtain⟨y,hy,_⟩:=Rep.all l hv.2.2 _ j (Nat.lt_succ_self _) hj;exact⟨y,fun _=>hy⟩
      · exact⟨⟨0,0,[],[],[],[]⟩,fun h=>absurd h hj⟩
    obtain⟨x,hx,hr⟩:=Rep.all l hv.2.2 _ (l.length-1) (Nat.lt_succ_self _) (by omega)
    obtain⟨s,e1,e2,e3⟩:=P.YAb l hv.2.1 f hf
    have hT:f (l.length-1)=x:=Rep.fn (hf _ (by omega)) hx
    rw[e1,hidx]
    simp only[oS]
    rw[Zx (show l.length-1<s.length by omega)]
    simp only[oS]
    rw[e3 _ (by omega)]
    simp only[hT]
    obtain⟨p1,p2⟩:=P.YAA hw hx hr 300 (by omega)
    by_cases hn:x.nodes<=300
    · have hxw:=Rep.weight hw hx
      have p1:F.f191 l ((l.length-1:Nat):Int) 300=some (x,((300-x.nodes:Nat):Int)):=p1 hn
      rw[if_neg (by unfold cap;omega),P.YAR hx hr (by omega),p1]
      simp only[oS]
      rw[if_neg (by omega)]
      simp only[oS]
      rw[if_pos True.intro,P.YE]
      simp only[oS]
      rw[if_pos True.intro,if_pos True.intro]
      rcases P.Yx x (by omega)with⟨_,_,q⟩|⟨_,_,l2,k,_,q2,q3⟩
      · exact absurd ⟨hn,hr⟩ q
      · have h1:=Added.few q3 hx
        have h2:=q3.len
        rw[q2]
        simp only[oS]
        rw[if_pos True.intro,if_pos h1,P.YX x (by omega)]
        simp only[oS]
        rw[decide_eq_true (by simp at h2;omega)]
    · obtain⟨y,l',q1,q2⟩:=p2 (by omega)
      have q1:F.f191 l ((l.length-1:Nat):Int) 300=some (y,l'):=q1
      rw[if_pos (by unfold cap;omega),q1]
      simp only[oS]
      rw[if_pos q2]
      simp only[oS]
      rw[if_pos True.intro,P.YE]
      rfl
  · rw[if_neg (by rw[ZH hv];decide),if_neg (by rw[ZH hv];decide)]
    simp only[oS]
    rw[if_pos True.intro,P.YE]
    rfl
end Go.Vl
