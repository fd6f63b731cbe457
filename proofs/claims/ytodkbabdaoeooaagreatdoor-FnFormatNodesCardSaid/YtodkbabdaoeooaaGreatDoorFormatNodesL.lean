/- Part. -/
import Derived.Test.YtodkbabdaoeooaaGreatDoorFormatNodesB
set_option linter.all false
set_option maxRecDepth 100000
namespace Go.Vl
open Go Go.RowKit
theorem P.FnFormatNodes (code:List Int)(hc:ZBH code):F.f198 code=some true:=by
  unfold F.f198
  split
  · rfl
  obtain⟨l,e0,hl,hn⟩:=P.YAo code hc
  unfold F.f171
  rw[e0]
  simp only[oE,oS]
  have hw:=ZH6 (f:=Node.wt) (b:=710) fun n h=>(hn n h).1
  by_cases hv:1<=l.length/\l.length<=300/\∀j (h:j<l.length),nodeOk j l[j]
  · have ok:∀x,x∈l->nodeOk 300 x:=fun x hx=>by
      obtain⟨j,hj,rfl⟩:=List.getElem_of_mem hx
      have q:=hv.2.2 j hj
      exact⟨q.op0,q.op2,q.els0,by have:=q.els1;omega,q.len,fun i hi=>⟨(q.edges i hi).1,by have:=(q.edges i hi).2;omega⟩⟩
    have tx:∀x,x∈l->x.Txt:=fun x hx=>by
      obtain⟨hwx,h2⟩:=hn x hx
      have q:=ok x hx
      refine⟨h2.clause,⟨?_,h2.path⟩,⟨by have:=q.len;unfold maxLen;omega,fun d hd=> ?_⟩,ZFO (by have:=q.els0;omega) (by have:=q.els1;omega)⟩
      · have:wtL (fun _:Int=>0) x.path=x.path.length:=ZBz x.path
        unfold Node.wt at hwx;unfold maxLen;omega
      · obtain⟨i,hi,rfl⟩:=List.getElem_of_mem hd
        obtain⟨a1,a2,a3⟩:=h2.edges _ (gM hi)
        have:=q.edges i hi
        exact⟨a1,a2,a3,ZFO (by omega) (by omega)⟩
    have hsz:=ZHI tx (by omega) fun x hx=>(ok x hx).len
    rw[P.YAK tx (by omega) hv,P.YAB tx (by omega) hv,P.YE l (by omega),P.YD l,ZI hv]
    simp only[oS]
    rw[iP True.intro,iP True.intro]
    rw[ZFW (b:=ZCW l) hsz (L:=F.f197 l (ZCW l) true) (fun n i=>by rw[F.f197]) _ 0 0 rfl (Nat.le_refl _) (Nat.zero_le _)]
    simp only[oS,List.drop_zero]
    have hn:(ZCW l).data.toList.count 10=l.length:=ZJi l
    rw[hn]
    simp
  · rw[P.YAL (by omega) hv,P.YAC (by omega) hv,P.YE l (by omega),P.YD l,ZG hv]
    simp only[oS]
    rw[iP True.intro,iP True.intro,F.f197,iN (by decide)]
    simp
end Go.Vl
