/- The value-level layer, part 20b: drawn regions with effects, worked in the order of the text. -/
import Derived.Test.YtgjgeeeeafbckaaVlMap2
set_option linter.unusedSimpArgs false
set_option linter.unusedVariables false
namespace Go.Vl
open Go Go.RowKit

def liveAll : List Store → List AV → Prop
  | _, [] => True
  | ss, p :: r => liveOn ss p ∧ liveAll ss r
where liveOn : List Store → AV → Prop
  | [], _ => True
  | σ :: r, p => liveP σ p ∧ liveOn r p

theorem liveOn_mem {σ : Store} : ∀ {ss : List Store} {p : AV}, liveAll.liveOn ss p → σ ∈ ss → liveP σ p
  | a :: r, p, h, hm => by
    rcases List.mem_cons.1 hm with rfl | hm
    · exact h.1
    · exact liveOn_mem h.2 hm
theorem liveAll_mem {σ : Store} {ss : List Store} : ∀ {ps : List AV} {p : AV}, liveAll ss ps → p ∈ ps → σ ∈ ss → liveP σ p
  | a :: r, p, h, hm, hs => by
    rcases List.mem_cons.1 hm with rfl | hm
    · exact liveOn_mem h.1 hs
    · exact liveAll_mem h.2 hm hs

def aLop (fs : List FuncId) (P : Program) (B : Nat) (op : Op) (fr : Frm) (σ : Store) (K : AV → Store → Prop) : Prop :=
  if isEff fs op = true then (match op with
    | .call { callee := .value f, args, .. } => ECallV P B (ev fr f) (args.toList.map (ev fr)) σ K
    | op => aef P B op (ev fr) σ K)
  else aPop P B op fr σ fun r => K r σ

/-- The addresses that are looked at again, and what is asked where an operation may run early or late. -/
def aLadd (x : Bool) (op : Op) (fr : Frm) (ps : List AV) : List AV :=
  if x = true then ps else match addrOf op with
    | some y => ev fr y :: ps
    | none => ps
def aLchk (fs : List FuncId) (x : Bool) (op : Op) (fr : Frm) : Prop :=
  if x = true ∨ isEff fs op = true then True else match op with
    | .call { callee := .value _, .. } => True
    | op => match addrOf op with
      | some _ => True
      | none => plainOp op = true ∧ purs (op.operands.toList.map (ev fr))

def aL (fs : List FuncId) (P : Program) (B N : Nat) (ops : Array Oper) : List Oper → List Bool → Frm → List Store → List AV → (Frm → Store → Prop) → Prop
  | [], _, fr, ss, ps, K => chk (liveAll ss ps) (hold (K fr (ss.headD [])) .mk)
  | o :: rest, xs, fr, ss, ps, K => awant ops fr o.guard
      (chk (aLchk fs (xs.headD false) o.op fr) (hold (aLop fs P B o.op fr (ss.headD []) (hold (fun r σ' => dOkK N o.dst (hold (aL fs P B N ops rest xs.tail (putF o.dst r fr) (if isEff fs o.op = true then σ' :: ss else ss) (aLadd (xs.headD false) o.op fr ps) K) .mk)) .mk)) .mk))
      (dOkK N o.dst (hold (aL fs P B N ops rest xs.tail (putF o.dst (.lit undef) fr) ss ps K) .mk))

section
variable {P : Program} {B nb N : Nat} {fs : List FuncId}

theorem eff_cases {op : Op} (h : isEff fs op = true) : isEff [] op = true ∨ ∃ f args ts, op = .call { callee := .value f, args := args, argTypes := ts } := by
  cases op <;> first | exact .inl rfl | (simp [isEff] at h; done) | skip
  next c =>
    obtain ⟨cal, args, ts⟩ := c
    cases cal with
    | value f => exact .inr ⟨f, args, ts, rfl⟩
    | builtin b => cases b <;> first | exact .inl rfl | (simp [isEff] at h; done)
    | _ => simp [isEff] at h

/-- Why an operation may run at another stage, with the addresses that are pending. -/
def FP (infos : List Info) (xs : List Bool) (ps : List AV) : Prop := ∀ (i : Nat) (e : Info) (x : Bool), infos[i]? = some e → xs[i]? = some x → e.want = true → isEff [] e.o.op = false → (∀ f args ts, e.o.op ≠ .call { callee := .value f, args := args, argTypes := ts }) →
  x = true ∨ (plainOp e.o.op = true ∧ purs (e.o.op.operands.toList.map (ev e.fr))) ∨ (∃ y, addrOf e.o.op = some y ∧ ev e.fr y ∈ ps)

theorem FP.snoc {infos : List Info} {xs : List Bool} {ps ps' : List AV} (h : FP infos xs ps) (hps : ∀ p, p ∈ ps → p ∈ ps') {e : Info} (he : ∀ x, xs[infos.length]? = some x → e.want = true → isEff [] e.o.op = false → (∀ f args ts, e.o.op ≠ .call { callee := .value f, args := args, argTypes := ts }) →
    x = true ∨ (plainOp e.o.op = true ∧ purs (e.o.op.operands.toList.map (ev e.fr))) ∨ (∃ y, addrOf e.o.op = some y ∧ ev e.fr y ∈ ps')) : FP (infos ++ [e]) xs ps' := by
  intro i f x hi hx hw h1 h2
  by_cases hlt : i < infos.length
  · rw [List.getElem?_append_left hlt] at hi
    rcases h i f x hi hx hw h1 h2 with q | q | ⟨y, q1, q2⟩
    · exact .inl q
    · exact .inr (.inl q)
    · exact .inr (.inr ⟨y, q1, hps _ q2⟩)
  · rw [List.getElem?_append_right (by omega)] at hi
    have h0 : i - infos.length = 0 := by
      rcases Nat.eq_zero_or_pos (i - infos.length) with h0 | h0
      · exact h0
      · rw [List.getElem?_eq_none (by simp; omega)] at hi; cases hi
    rw [h0] at hi
    simp at hi
    subst hi
    have : i = infos.length := by omega
    subst this
    exact he x hx hw h1 h2

theorem aD_of_aL {ops : Array Oper} {XS : List Bool} {K : ASt → Prop} : ∀ (rest : List Oper) (xs : List Bool) (fr : Frm) (acc : List Info) (ss : List Store) (ps : List AV), ss ≠ [] → xs = XS.drop acc.length → FP acc.reverse XS ps →
    aL fs P B N ops rest xs fr ss ps (fun fr' σ' => K ⟨fr', σ'⟩) → aD fs P B N ops rest fr acc ss fun acc ss fr' => FOK acc.reverse XS ss ∧ K ⟨fr', ss.headD []⟩
  | [], xs, fr, acc, ss, ps, hss, hxs, hfp, h => by
    unfold aL at h
    refine ⟨fun i e x hi hx hw h1 h2 => ?_, h.2⟩
    rcases hfp i e x hi hx hw h1 h2 with q | q | ⟨y, q1, q2⟩
    · exact .inl q
    · exact .inr (.inl q)
    · exact .inr (.inr ⟨y, q1, fun σ hσ => liveAll_mem h.1 q2 hσ⟩)
  | o :: rest, xs, fr, acc, ss, ps, hss, hxs, hfp, h => by
    have hhead : ∀ x, XS[acc.reverse.length]? = some x → xs.headD false = x := by
      intro x hx
      rw [hxs]
      rw [List.length_reverse] at hx
      have := (List.getElem?_eq_some_iff.1 hx)
      rw [List.drop_eq_getElem_cons this.1, this.2]; rfl
    have htail : ∀ e : Info, xs.tail = XS.drop (e :: acc).length := by
      intro e; rw [hxs, List.tail_drop]; rfl
    have fpF : ∀ (V : AV) (r : Nat) , FP (acc.reverse ++ [⟨o, false, false, fr, V, r⟩]) XS ps := fun V r => hfp.snoc (fun _ h => h) fun x _ hw => by cases hw
    unfold aL at h
    unfold aD
    have hno : dOkK N o.dst (hold (aL fs P B N ops rest xs.tail (putF o.dst (.lit undef) fr) ss ps (fun fr' σ' => K ⟨fr', σ'⟩)) .mk) →
        dOk N o.dst ∧ aD fs P B N ops rest (putF o.dst (.lit undef) fr) (⟨o, false, false, fr, .lit undef, 0⟩ :: acc) ss fun acc ss fr' => FOK acc.reverse XS ss ∧ K ⟨fr', ss.headD []⟩ := by
      intro h
      exact ⟨h.1, aD_of_aL rest _ _ _ ss ps hss (htail _) (by rw [List.reverse_cons]; exact fpF _ _) h.2⟩
    have hyes : chk (aLchk fs (xs.headD false) o.op fr) (hold (aLop fs P B o.op fr (ss.headD []) (hold (fun r σ' => dOkK N o.dst (hold (aL fs P B N ops rest xs.tail (putF o.dst r fr) (if isEff fs o.op = true then σ' :: ss else ss) (aLadd (xs.headD false) o.op fr ps) (fun fr' σ' => K ⟨fr', σ'⟩)) .mk)) .mk)) .mk) →
        (match o.op with
        | .call { callee := .value f, args, .. } => if isEff fs o.op = true then ECallV P B (ev fr f) (args.toList.map (ev fr)) (ss.headD []) fun r σ' => dOk N o.dst ∧ aD fs P B N ops rest (putF o.dst r fr) (⟨o, true, true, fr, r, ss.length - 1⟩ :: acc) (σ' :: ss) fun acc ss fr' => FOK acc.reverse XS ss ∧ K ⟨fr', ss.headD []⟩
            else PCall P B (ev fr f) (args.toList.map (ev fr)) fun r => dOk N o.dst ∧ aD fs P B N ops rest (putF o.dst r fr) (⟨o, true, false, fr, r, 0⟩ :: acc) ss fun acc ss fr' => FOK acc.reverse XS ss ∧ K ⟨fr', ss.headD []⟩
        | op => aef P B op (ev fr) (ss.headD []) fun r σ' => dOk N o.dst ∧
            if isEff fs o.op = true then aD fs P B N ops rest (putF o.dst r fr) (⟨o, true, true, fr, r, ss.length - 1⟩ :: acc) (σ' :: ss) fun acc ss fr' => FOK acc.reverse XS ss ∧ K ⟨fr', ss.headD []⟩
            else σ' = ss.headD [] ∧ aD fs P B N ops rest (putF o.dst r fr) (⟨o, true, false, fr, r, ss.length - 1⟩ :: acc) ss fun acc ss fr' => FOK acc.reverse XS ss ∧ K ⟨fr', ss.headD []⟩) := by
      rintro ⟨hc, h⟩
      simp only [hold] at h
      have hps : ∀ p, p ∈ ps → p ∈ aLadd (xs.headD false) o.op fr ps := by
        intro p hp
        unfold aLadd
        split
        · exact hp
        · split
          · exact List.mem_cons_of_mem _ hp
          · exact hp
      have fp : ∀ (eff : Bool) (V : AV) (r : Nat), FP (acc.reverse ++ [⟨o, true, eff, fr, V, r⟩]) XS (aLadd (xs.headD false) o.op fr ps) := by
        intro eff V r
        refine hfp.snoc hps fun x hx _ h1 h2 => ?_
        have hx' := hhead x hx
        rw [hx'] at hc
        unfold aLchk at hc
        by_cases hxt : x = true
        · exact .inl hxt
        · have hne : ¬ (x = true ∨ isEff fs o.op = true) := by
            rintro (q | q)
            · exact hxt q
            · rcases eff_cases q with q | ⟨f, args, ts, q⟩
              · rw [h1] at q; cases q
              · exact h2 f args ts q
          rw [if_neg hne] at hc
          split at hc
          · next f args ts hop => exact absurd hop (h2 _ _ _)
          · split at hc
            · next y hy =>
              refine .inr (.inr ⟨y, hy, ?_⟩)
              unfold aLadd
              rw [hx', if_neg hxt, hy]
              exact List.mem_cons_self ..
            · exact .inr (.inl hc)
      have goE : ∀ (r : AV) (σ' : Store), isEff fs o.op = true → dOkK N o.dst (aL fs P B N ops rest xs.tail (putF o.dst r fr) (σ' :: ss) (aLadd (xs.headD false) o.op fr ps) (fun fr' σ' => K ⟨fr', σ'⟩)) →
          dOk N o.dst ∧ aD fs P B N ops rest (putF o.dst r fr) (⟨o, true, true, fr, r, ss.length - 1⟩ :: acc) (σ' :: ss) fun acc ss fr' => FOK acc.reverse XS ss ∧ K ⟨fr', ss.headD []⟩ := by
        intro r σ' he hk
        have hk2 := hk.2
        exact ⟨hk.1, aD_of_aL rest _ _ _ (σ' :: ss) _ (by simp) (htail _) (by rw [List.reverse_cons]; exact fp _ _ _) hk2⟩
      have goN : ∀ (r : AV) (n : Nat), isEff fs o.op = false → dOkK N o.dst (aL fs P B N ops rest xs.tail (putF o.dst r fr) ss (aLadd (xs.headD false) o.op fr ps) (fun fr' σ' => K ⟨fr', σ'⟩)) →
          dOk N o.dst ∧ aD fs P B N ops rest (putF o.dst r fr) (⟨o, true, false, fr, r, n⟩ :: acc) ss fun acc ss fr' => FOK acc.reverse XS ss ∧ K ⟨fr', ss.headD []⟩ := by
        intro r n he hk
        have hk2 := hk.2
        exact ⟨hk.1, aD_of_aL rest _ _ _ ss _ hss (htail _) (by rw [List.reverse_cons]; exact fp _ _ _) hk2⟩
      clear hno hc fp fpF
      unfold aLop at h
      cases he : isEff fs o.op with
      | true =>
        simp only [he, if_true] at h goE ⊢
        generalize hop : o.op = op at h ⊢
        have gen : (aef P B op (ev fr) (ss.headD []) fun r σ' => dOkK N o.dst (hold (aL fs P B N ops rest xs.tail (putF o.dst r fr) (σ' :: ss) (aLadd (xs.headD false) op fr ps) (fun fr' σ' => K ⟨fr', σ'⟩)) .mk)) →
            aef P B op (ev fr) (ss.headD []) fun r σ' => dOk N o.dst ∧ aD fs P B N ops rest (putF o.dst r fr) (⟨o, true, true, fr, r, ss.length - 1⟩ :: acc) (σ' :: ss) fun acc ss fr' => FOK acc.reverse XS ss ∧ K ⟨fr', ss.headD []⟩ := by
          intro h
          obtain ⟨r, s, h1, h2⟩ := pt_aef P B op (ev fr) (ss.headD []) _ h
          exact h2 _ (goE r s trivial (by rw [hop]; exact h1))
        cases op with
        | call c =>
          obtain ⟨cal, args, ts⟩ := c
          cases cal with
          | value f =>
            simp only [ECallV] at h ⊢
            split at h
            · obtain ⟨r, σ', q1, q2⟩ := h
              exact ⟨r, σ', q1, goE r σ' trivial (by rw [hop]; exact q2)⟩
            · exact h.elim
          | _ => exact gen h
        | _ => exact gen h
      | false =>
        simp only [he, Bool.false_eq_true, if_false] at h goN ⊢
        generalize hop : o.op = op at h ⊢
        have gen : (aef P B op (ev fr) (ss.headD []) fun r σ' => σ' = ss.headD [] ∧ dOkK N o.dst (hold (aL fs P B N ops rest xs.tail (putF o.dst r fr) ss (aLadd (xs.headD false) op fr ps) (fun fr' σ' => K ⟨fr', σ'⟩)) .mk)) →
            aef P B op (ev fr) (ss.headD []) fun r σ' => dOk N o.dst ∧ σ' = ss.headD [] ∧ aD fs P B N ops rest (putF o.dst r fr) (⟨o, true, false, fr, r, ss.length - 1⟩ :: acc) ss fun acc ss fr' => FOK acc.reverse XS ss ∧ K ⟨fr', ss.headD []⟩ := by
          intro h
          obtain ⟨r, s, ⟨h0, h1⟩, h2⟩ := pt_aef P B op (ev fr) (ss.headD []) _ h
          have := goN r (ss.length - 1) trivial (by rw [hop]; exact h1)
          exact h2 _ ⟨this.1, h0, this.2⟩
        unfold aPop at h
        cases op with
        | call c =>
          obtain ⟨cal, args, ts⟩ := c
          cases cal with
          | value f => exact PCall.mono h fun r hr => goN r 0 trivial (by rw [hop]; exact hr)
          | _ => exact gen h
        | _ => exact gen h
    unfold awant at h ⊢
    split at h
    · exact hyes h
    · split at h
      · split at h
        · split at h
          · next hb => simp only [hb, if_true]; exact hyes h
          · next hb => simp only [hb, if_false]; exact hno h
        · exact h.elim
      · exact h.elim

theorem ADraw.eff {ops : Array Oper} {b : Box ops} {fr : Frm} {σ : Store} {K : ASt → Prop} {b' : Box K} (fs : List FuncId) (tab : List (Nat × Nat)) (xs : List Bool) (hm : P.follows .mixedOrders = true) (hd : drawB fs ops = true) (ht : tabB fs ops tab = true) (hx : exactX fs ops tab xs = true)
    (h : aL fs P B N (hold ops .mk) ops.toList xs fr [σ] [] (hold (fun fr' σ' => K ⟨fr', σ'⟩) .mk)) : ADraw P B nb N (hold ops b) ⟨fr, σ⟩ (hold K b') := by
  refine ADraw.exact hm hd tab (.inr ht) xs hx ?_
  exact aD_of_aL ops.toList xs fr [] [σ] [] (by simp) rfl (fun i e x hi => by simp at hi) h

def aLeff (P : Program) (B : Nat) (op : Op) (fr : Frm) (σ : Store) (K : AV → Store → Prop) : Prop :=
  match op with
  | .call { callee := .value f, args, .. } => ECallV P B (ev fr f) (args.toList.map (ev fr)) σ K
  | op => aef P B op (ev fr) σ K
theorem hL_nil {ops : Array Oper} {xs : List Bool} {fr : Frm} {ss : List Store} {ps : List AV} {K : Frm → Store → Prop} {k : Box K} : aL fs P B N ops [] xs fr ss ps (hold K k) = chk (liveAll ss ps) (hold (K fr (ss.headD [])) .mk) := rfl
theorem hL_cons {ops : Array Oper} {bo : Box ops} {o : Oper} {rest : List Oper} {xs : List Bool} {fr : Frm} {ss : List Store} {ps : List AV} {K : Frm → Store → Prop} {k : Box K} : aL fs P B N (hold ops bo) (o :: rest) xs fr ss ps (hold K k) =
    awant (hold ops .mk) fr o.guard
      (hold (chk (aLchk fs (xs.headD false) o.op fr) (hold (aLop fs P B o.op fr (ss.headD []) (hold (fun r σ' => dOkK N o.dst (hold (aL fs P B N (hold ops .mk) rest xs.tail (putF o.dst r fr) (if isEff fs o.op = true then σ' :: ss else ss) (aLadd (xs.headD false) o.op fr ps) (hold K .mk)) .mk)) .mk)) .mk)) .mk)
      (hold (dOkK N o.dst (hold (aL fs P B N (hold ops .mk) rest xs.tail (putF o.dst (.lit undef) fr) ss ps (hold K .mk)) .mk)) .mk) := rfl
theorem hL_op {op : Op} {fr : Frm} {σ : Store} {K : AV → Store → Prop} {k : Box K} : aLop fs P B op fr σ (hold K k) = if isEff fs op = true then aLeff P B op fr σ (hold K .mk) else aPop P B op fr σ (hold (fun r => K r σ) .mk) := rfl
theorem hL_alloc {t : TypeId} {fr : Frm} {σ : Store} {K : AV → Store → Prop} {k : Box K} : aLeff P B (.alloc t) fr σ (hold K k) = aef P B (.alloc t) (ev fr) σ (hold K .mk) := rfl
theorem hL_box {t : TypeId} {x : Operand} {fr : Frm} {σ : Store} {K : AV → Store → Prop} {k : Box K} : aLeff P B (.box t x) fr σ (hold K k) = aef P B (.box t x) (ev fr) σ (hold K .mk) := rfl
theorem hL_buildSlice {t : TypeId} {n : Nat} {ps : Array (Nat × Operand)} {fr : Frm} {σ : Store} {K : AV → Store → Prop} {k : Box K} : aLeff P B (.buildSlice t n ps) fr σ (hold K k) = aef P B (.buildSlice t n ps) (ev fr) σ (hold K .mk) := rfl
theorem hL_makeSlice {t : TypeId} {l c : Operand} {fr : Frm} {σ : Store} {K : AV → Store → Prop} {k : Box K} : aLeff P B (.makeSlice t l c) fr σ (hold K k) = aef P B (.makeSlice t l c) (ev fr) σ (hold K .mk) := rfl
theorem hL_store {t : TypeId} {a x : Operand} {fr : Frm} {σ : Store} {K : AV → Store → Prop} {k : Box K} : aLeff P B (.store t a x) fr σ (hold K k) = aef P B (.store t a x) (ev fr) σ (hold K .mk) := rfl
theorem hL_builtin {bi : Builtin} {args : Array Operand} {ts : Array TypeId} {fr : Frm} {σ : Store} {K : AV → Store → Prop} {k : Box K} : aLeff P B (.call { callee := .builtin bi, args := args, argTypes := ts }) fr σ (hold K k) = aef P B (.call { callee := .builtin bi, args := args, argTypes := ts }) (ev fr) σ (hold K .mk) := rfl
theorem hL_call {f : Operand} {l : List Operand} {ts : Array TypeId} {fr : Frm} {σ : Store} {K : AV → Store → Prop} {k : Box K} : aLeff P B (.call { callee := .value f, args := List.toArray l, argTypes := ts }) fr σ (hold K k) = ECallV P B (ev fr f) (l.map (ev fr)) σ (hold K .mk) := rfl
theorem hL_callV {i : FuncId} {first cap args : List AV} {σ : Store} {K : AV → Store → Prop} {k : Box K} : ECallV P B (.fn (.func i) first cap) args σ (hold K k) = ECallA P B i (first ++ args ++ cap) σ (hold K .mk) := rfl

theorem MutCall.ego {f : FuncId} {cs args : List AV} {r : AV} {cs' : List AV} (h : MutCall P B f cs args r cs') {σ : Store} (l : Nat) {ds args' : List AV} (hl : σ[l]? = some (.cells ds)) (hle : AV.le.les ds cs) (hlen : cs'.length = cs.length) (ha : mrel l args' args)
    {K : AV → Store → Prop} {k : Box K} (hK : K r (σ.set l (.cells cs'))) : ECallA P B f args' σ (hold K k) :=
  ⟨r, σ.set l (.cells cs'), fun K' hK' => MutCall.go (k := (.mk : Box K')) h l hl hle hlen ha hK', hK⟩
theorem PureCall.elend {f : FuncId} {args args' : List AV} {r : AV} (h : PureCall P B f args' r) {σ : Store} (hb : brw.brws σ args args') (hr : r.lits) {K : AV → Store → Prop} {b : Box K} (hK : K r σ) : ECallA P B f args σ (hold K b) :=
  ⟨r, σ, fun K' hK' => PureCall.lend (b := (.mk : Box K')) h hb hr hK', hK⟩
theorem PureCall.ego {f : FuncId} {args args' : List AV} {r : AV} (h : PureCall P B f args' r) (hl : AV.le.les args args') (hp : purs args) {σ : Store} {K : AV → Store → Prop} {b : Box K} (hK : K r σ) : ECallA P B f args σ (hold K b) :=
  ⟨r, σ, fun K' hK' => PureCall.goW (b := (.mk : Box K')) h hl hp hK', hK⟩
end
attribute [simp ↓] hL_nil hL_cons hL_op hL_alloc hL_box hL_buildSlice hL_makeSlice hL_store hL_builtin hL_call hL_callV
attribute [simp] liveAll liveAll.liveOn aLadd aLchk addrOf plainOp isEff purs Op.operands Call.operands
end Go.Vl
