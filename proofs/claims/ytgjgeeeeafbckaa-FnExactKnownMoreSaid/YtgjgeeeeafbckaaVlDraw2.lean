/- The value-level layer, part 17: a drawn region, worked in the order of the text. -/
import Derived.Test.YtgjgeeeeafbckaaVlPoint
set_option linter.unusedSimpArgs false
set_option linter.unusedVariables false
namespace Go.Vl
open Go Go.RowKit
attribute [local simp] lk putK ev frOf AV.adv Sh.isAgg

/-- A call whose result is known, in any order. -/
def PCallA (P : Program) (B : Nat) (f : FuncId) (args : List AV) (K : AV → Prop) : Prop := ∃ r, PureCall P B f args r ∧ purs args ∧ K r

def PCall (P : Program) (B : Nat) (f : AV) (args : List AV) (K : AV → Prop) : Prop :=
  match f with
  | .fn (.func i) first cap => PCallA P B i (first ++ args ++ cap) K
  | _ => False

def putF (d : Option Nat) (r : AV) (fr : Frm) : Frm :=
  match d with
  | some d => (d, r) :: fr
  | none => fr

def dOk (N : Nat) (d : Option Nat) : Prop :=
  match d with
  | some d => d < N
  | none => True

def isCall (fs : List FuncId) (op : Op) : Bool := !isEff fs op && match op with
  | .call { callee := .value _, .. } => true
  | _ => false

/-- A call with an effect whose outcome is known. -/
def ECallA (P : Program) (B : Nat) (f : FuncId) (args : List AV) (σ : Store) (K : AV → Store → Prop) : Prop := ∃ r σ', ECall P B f args σ r σ' ∧ K r σ'

def ECallV (P : Program) (B : Nat) (f : AV) (args : List AV) (σ : Store) (K : AV → Store → Prop) : Prop :=
  match f with
  | .fn (.func i) first cap => ECallA P B i (first ++ args ++ cap) σ K
  | _ => False

def effCnt (fs : List FuncId) (l : List Oper) : Nat := (l.filter fun o => isEff fs o.op).length

def aD (fs : List FuncId) (P : Program) (B N : Nat) (ops : Array Oper) : List Oper → Frm → List Info → List Store → (List Info → List Store → Frm → Prop) → Prop
  | [], fr, acc, ss, K => K acc ss fr
  | o :: rest, fr, acc, ss, K => awant ops fr o.guard
      (match o.op with
        | .call { callee := .value f, args, .. } => if isEff fs o.op = true then ECallV P B (ev fr f) (args.toList.map (ev fr)) (ss.headD []) fun r σ' => dOk N o.dst ∧ aD fs P B N ops rest (putF o.dst r fr) (⟨o, true, true, fr, r, ss.length - 1⟩ :: acc) (σ' :: ss) K
            else PCall P B (ev fr f) (args.toList.map (ev fr)) fun r => dOk N o.dst ∧ aD fs P B N ops rest (putF o.dst r fr) (⟨o, true, false, fr, r, 0⟩ :: acc) ss K
        | op => aef P B op (ev fr) (ss.headD []) fun r σ' => dOk N o.dst ∧
            if isEff fs o.op = true then aD fs P B N ops rest (putF o.dst r fr) (⟨o, true, true, fr, r, ss.length - 1⟩ :: acc) (σ' :: ss) K
            else σ' = ss.headD [] ∧ aD fs P B N ops rest (putF o.dst r fr) (⟨o, true, false, fr, r, ss.length - 1⟩ :: acc) ss K)
      (dOk N o.dst ∧ aD fs P B N ops rest (putF o.dst (.lit undef) fr) (⟨o, false, false, fr, .lit undef, 0⟩ :: acc) ss K)

/-- The stages at which an operation may run. -/
def stageOk (fs : List FuncId) (ops : Array Oper) (i : Nat) (o : Oper) (lo hi : Nat) : Bool :=
  (lo == 0 || (List.range ops.size).any fun j => match ops[j]? with
    | some p => isEff fs p.op && edgeOn o j && decide (lo ≤ effCnt fs (ops.toList.take j) + 1)
    | none => false) &&
  (decide (effCnt fs ops.toList ≤ hi) || (List.range ops.size).any fun j => match ops[j]? with
    | some p => isEff fs p.op && edgeOn p i && decide (effCnt fs (ops.toList.take j) ≤ hi)
    | none => false)

def tabB (fs : List FuncId) (ops : Array Oper) (tab : List (Nat × Nat)) : Bool :=
  decide (tab.length = ops.size) && (List.range ops.size).all fun i => match ops[i]?, tab[i]? with
    | some o, some t => stageOk fs ops i o t.1 t.2 && (!isEff fs o.op || o.guard.isNone)
    | _, _ => true

def oblS (P : Program) (B : Nat) (e : Info) (ss : List Store) : Nat → Nat → Prop
  | _, 0 => True
  | s, k + 1 => (if s = e.rank then True else OpEx P B e.o (ev e.fr) (ss.getD s []) e.V (ss.getD s [])) ∧ oblS P B e ss (s + 1) k

/-- What is owed of each operation: infos and tab in the order of the text, the stores too. -/
def obl (fs : List FuncId) (P : Program) (B : Nat) (ss : List Store) : List Info → List (Nat × Nat) → Prop
  | e :: r, t :: ts => (if e.want = false ∨ isCall fs e.o.op = true then True
      else if e.eff = true then True
      else oblS P B e ss t.1 (t.2 + 1 - t.1)) ∧ obl fs P B ss r ts
  | _, _ => True

section
variable {P : Program} {B nb N : Nat} {fs : List FuncId}

theorem beq_false {b w : Bool} (h : ¬ b = w) : false = (b == w) := by cases b <;> cases w <;> simp_all

theorem effCnt_snoc (l : List Oper) (o : Oper) : effCnt fs (l ++ [o]) = effCnt fs l + if isEff fs o.op = true then 1 else 0 := by
  unfold effCnt
  rw [List.filter_append, List.length_append]
  congr 1
  by_cases h : isEff fs o.op = true <;> simp [h]

structure Lex (fs : List FuncId) (P : Program) (B N : Nat) (ops : Array Oper) (fr0 : Frm) (infos : List Info) (fr : Frm) (ss : List Store) : Prop where
  len : infos.length ≤ ops.size
  op : ∀ (i : Nat) (e : Info), infos[i]? = some e → ops[i]? = some e.o
  dst : ∀ (i : Nat) (e : Info), infos[i]? = some e → dOk N e.o.dst
  lex : ∀ (i : Nat) (e : Info), infos[i]? = some e → FrX (fun j => j < i) fr0 infos e.fr
  guard : ∀ (i : Nat) (e : Info), infos[i]? = some e → match e.o.guard with
    | none => e.want = true
    | some (j, want) => ∃ d v, (ops[j]?).bind (·.dst) = some d ∧ lk e.fr d = .lit v ∧ e.want = (yb v == some want)
  no : ∀ (i : Nat) (e : Info), infos[i]? = some e → e.want = false → e.V = .lit undef ∧ e.eff = false
  eff : ∀ (i : Nat) (e : Info), infos[i]? = some e → e.want = true → e.eff = isEff fs e.o.op
  rank : ∀ (i : Nat) (e : Info), infos[i]? = some e → e.want = true → isCall fs e.o.op = false → e.rank = effCnt fs (ops.toList.take i)
  call : ∀ (i : Nat) (e : Info), infos[i]? = some e → e.want = true → isCall fs e.o.op = true → ∀ σ, OpEx P B e.o (ev e.fr) σ e.V σ
  ex : ∀ (i : Nat) (e : Info), infos[i]? = some e → e.want = true → isCall fs e.o.op = false → e.rank + (if e.eff = true then 1 else 0) < ss.length ∧
    OpEx P B e.o (ev e.fr) (ss.reverse.getD e.rank []) e.V (ss.reverse.getD (if e.eff = true then e.rank + 1 else e.rank) [])
  cur : FrX (fun _ => True) fr0 infos fr
  st : ss.length = effCnt fs (ops.toList.take infos.length) + 1

theorem FrX.more {X : Nat → Prop} {fr0 fr : Frm} {infos more : List Info} (h : FrX X fr0 infos fr) (hX : ∀ j, X j → j < infos.length) : FrX X fr0 (infos ++ more) fr := by
  intro t
  refine ⟨fun j e hj hx hd => (h t).1 j e (by rwa [List.getElem?_append_left (hX j hx)] at hj) hx hd, fun hno => (h t).2 fun j e hj hx => hno j e (by rw [List.getElem?_append_left (hX j hx)]; exact hj) hx⟩

theorem Lex.snoc {ops : Array Oper} (hd : drawB fs ops = true) (hg : ∀ (i : Nat) (o : Oper), ops[i]? = some o → isEff fs o.op = true → o.guard = none) {fr0 : Frm} {infos : List Info} {fr : Frm} {ss ss' : List Store} (h : Lex fs P B N ops fr0 infos fr ss) {o : Oper} (ho : ops[infos.length]? = some o)
    (hdst : dOk N o.dst) {want eff : Bool} {V : AV} {rank : Nat}
    (hguard : match o.guard with
      | none => want = true
      | some (j, w) => ∃ d v, (ops[j]?).bind (·.dst) = some d ∧ lk fr d = .lit v ∧ want = (yb v == some w))
    (hno : want = false → V = .lit undef ∧ eff = false) (heff : want = true → eff = isEff fs o.op) (hrank : want = true → isCall fs o.op = false → rank = ss.length - 1)
    (hcall : want = true → isCall fs o.op = true → ∀ σ, OpEx P B o (ev fr) σ V σ) (hst : ss'.length = ss.length + if eff = true then 1 else 0) (hmore : ∃ m, ss' = m ++ ss)
    (hex : want = true → isCall fs o.op = false → rank + (if eff = true then 1 else 0) < ss'.length ∧ OpEx P B o (ev fr) (ss'.reverse.getD rank []) V (ss'.reverse.getD (if eff = true then rank + 1 else rank) [])) :
    Lex fs P B N ops fr0 (infos ++ [⟨o, want, eff, fr, V, rank⟩]) (putF o.dst V fr) ss' := by
  have hlt : infos.length < ops.size := (Array.getElem?_eq_some_iff.1 ho).1
  have cases' : ∀ {i : Nat} {e : Info}, (infos ++ [⟨o, want, eff, fr, V, rank⟩])[i]? = some e → infos[i]? = some e ∨ (i = infos.length ∧ e = ⟨o, want, eff, fr, V, rank⟩) := by
    intro i e hi
    by_cases h' : i < infos.length
    · rw [List.getElem?_append_left h'] at hi; exact .inl hi
    · rw [List.getElem?_append_right (by omega)] at hi
      have : i - infos.length = 0 := by
        rcases Nat.eq_zero_or_pos (i - infos.length) with h0 | h0
        · exact h0
        · rw [List.getElem?_eq_none (by simp; omega)] at hi; cases hi
      rw [this] at hi
      simp at hi
      exact .inr ⟨by omega, hi.symm⟩
  have hwantEff : eff = isEff fs o.op := by
    cases hw : want with
    | true => exact heff hw
    | false =>
      rw [(hno hw).2]
      cases hie : isEff fs o.op with
      | false => rfl
      | true =>
        have := hg _ o ho hie
        rw [this] at hguard; simp only at hguard; rw [hw] at hguard; cases hguard
  have htake : ops.toList.take (infos.length + 1) = ops.toList.take infos.length ++ [o] := by
    rw [List.take_add_one]
    have : ops.toList[infos.length]? = some o := by rw [Array.getElem?_toList]; exact ho
    rw [this]; rfl
  refine ⟨by simp; omega, ?_, ?_, ?_, ?_, ?_, ?_, ?_, ?_, ?_, ?_, ?_⟩
  · intro i e hi
    rcases cases' hi with hi | ⟨rfl, rfl⟩
    · exact h.op i e hi
    · exact ho
  · intro i e hi
    rcases cases' hi with hi | ⟨rfl, rfl⟩
    · exact h.dst i e hi
    · exact hdst
  · intro i e hi
    rcases cases' hi with hi | ⟨rfl, rfl⟩
    · have hil := (List.getElem?_eq_some_iff.1 hi).1
      exact (h.lex i e hi).more fun j hj => by omega
    · refine FrX.more (X := fun j => j < infos.length) ?_ (fun j hj => hj)
      intro t
      refine ⟨fun j e hj _ hdj => (h.cur t).1 j e hj trivial hdj, fun hno' => (h.cur t).2 fun j e hj _ => hno' j e hj (List.getElem?_eq_some_iff.1 hj).1⟩
  · intro i e hi
    rcases cases' hi with hi | ⟨rfl, rfl⟩
    · exact h.guard i e hi
    · exact hguard
  · intro i e hi
    rcases cases' hi with hi | ⟨rfl, rfl⟩
    · exact h.no i e hi
    · exact hno
  · intro i e hi
    rcases cases' hi with hi | ⟨rfl, rfl⟩
    · exact h.eff i e hi
    · exact heff
  · intro i e hi
    rcases cases' hi with hi | ⟨rfl, rfl⟩
    · exact h.rank i e hi
    · intro hw hc; simp only at hw hc ⊢; rw [hrank hw hc, h.st]; omega
  · intro i e hi
    rcases cases' hi with hi | ⟨rfl, rfl⟩
    · exact h.call i e hi
    · exact hcall
  · intro i e hi hw hc
    rcases cases' hi with hi | ⟨rfl, rfl⟩
    · obtain ⟨h1, h2⟩ := h.ex i e hi hw hc
      obtain ⟨m, rfl⟩ := hmore
      have g : ∀ k, k < ss.length → (m ++ ss).reverse.getD k [] = ss.reverse.getD k [] := by
        intro k hk
        rw [List.reverse_append, List.getD_eq_getElem?_getD, List.getElem?_append_left (by simpa using hk), ← List.getD_eq_getElem?_getD]
      refine ⟨by rw [List.length_append]; omega, ?_⟩
      rw [g _ (by omega), g _ (by cases hee : e.eff <;> rw [hee] at h1 <;> simp at h1 ⊢ <;> omega)]
      exact h2
    · exact hex hw hc
  · intro t
    have lkp : lk (putF o.dst V fr) t = if o.dst = some t then V else lk fr t := by
      unfold putF
      cases hdo : o.dst with
      | none => simp
      | some d => simp [lk]
    refine ⟨fun j e hj _ hdj => ?_, fun hno' => ?_⟩
    · rw [lkp]
      rcases cases' hj with hj | ⟨rfl, rfl⟩
      · have hjl := (List.getElem?_eq_some_iff.1 hj).1
        rw [if_neg fun he => ((pair_spec hd ho (h.op j e hj)).2 (by omega)).1 t he hdj]
        exact (h.cur t).1 j e hj trivial hdj
      · rw [if_pos hdj]
    · rw [lkp, if_neg (hno' infos.length ⟨o, want, eff, fr, V, rank⟩ (by simp) trivial)]
      exact (h.cur t).2 fun j e hj _ => hno' j e (by rw [List.getElem?_append_left (List.getElem?_eq_some_iff.1 hj).1]; exact hj) trivial
  · rw [hst, h.st, List.length_append, List.length_singleton, htake, effCnt_snoc, hwantEff]; omega

theorem aD_sound {ops : Array Oper} (hd : drawB fs ops = true) (hg : ∀ (i : Nat) (o : Oper), ops[i]? = some o → isEff fs o.op = true → o.guard = none) {fr0 : Frm} {K : List Info → List Store → Frm → Prop} :
    ∀ (rest : List Oper) (fr : Frm) (acc : List Info) (ss : List Store), aD fs P B N ops rest fr acc ss K → ops.toList.drop acc.length = rest → Lex fs P B N ops fr0 acc.reverse fr ss →
      ∃ acc' ss' fr', K acc' ss' fr' ∧ Lex fs P B N ops fr0 acc'.reverse fr' ss' ∧ acc'.length = ops.size ∧ (∃ m, ss' = m ++ ss)
  | [], fr, acc, ss, hk, hdrop, hl => by
    refine ⟨acc, ss, fr, hk, hl, ?_, [], rfl⟩
    have h1 := hl.len
    have h2 := congrArg List.length hdrop
    simp at h1 h2; omega
  | o :: rest, fr, acc, ss, hk, hdrop, hl => by
    have ho : ops[acc.reverse.length]? = some o := by
      have : ops.toList[acc.length]? = some o := by
        have := congrArg (fun l => l[0]?) hdrop
        simpa using this
      rw [List.length_reverse, ← Array.getElem?_toList]; exact this
    have hdrop' : ∀ e : Info, ops.toList.drop (e :: acc).length = rest := by
      intro e
      have := congrArg List.tail hdrop
      simpa using this
    have hgo : ∀ (want eff : Bool) (V : AV) (rank : Nat) (ss' : List Store), (∃ m, ss' = m ++ ss) → Lex fs P B N ops fr0 (acc.reverse ++ [⟨o, want, eff, fr, V, rank⟩]) (putF o.dst V fr) ss' →
        aD fs P B N ops rest (putF o.dst V fr) (⟨o, want, eff, fr, V, rank⟩ :: acc) ss' K →
        ∃ acc' ss' fr', K acc' ss' fr' ∧ Lex fs P B N ops fr0 acc'.reverse fr' ss' ∧ acc'.length = ops.size ∧ (∃ m, ss' = m ++ ss) := by
      intro want eff V rank ss' hm hl' hk'
      obtain ⟨acc', ss2, fr', h1, h2, h3, m2, h4⟩ := aD_sound hd hg rest _ _ ss' hk' (hdrop' _) (by simpa using hl')
      obtain ⟨m, hm⟩ := hm
      exact ⟨acc', ss2, fr', h1, h2, h3, m2 ++ m, by rw [h4, hm, List.append_assoc]⟩
    -- the operation runs
    have yes : (match o.op with
        | .call { callee := .value f, args, .. } => if isEff fs o.op = true then ECallV P B (ev fr f) (args.toList.map (ev fr)) (ss.headD []) fun r σ' => dOk N o.dst ∧ aD fs P B N ops rest (putF o.dst r fr) (⟨o, true, true, fr, r, ss.length - 1⟩ :: acc) (σ' :: ss) K
            else PCall P B (ev fr f) (args.toList.map (ev fr)) fun r => dOk N o.dst ∧ aD fs P B N ops rest (putF o.dst r fr) (⟨o, true, false, fr, r, 0⟩ :: acc) ss K
        | op => aef P B op (ev fr) (ss.headD []) fun r σ' => dOk N o.dst ∧
            if isEff fs o.op = true then aD fs P B N ops rest (putF o.dst r fr) (⟨o, true, true, fr, r, ss.length - 1⟩ :: acc) (σ' :: ss) K
            else σ' = ss.headD [] ∧ aD fs P B N ops rest (putF o.dst r fr) (⟨o, true, false, fr, r, ss.length - 1⟩ :: acc) ss K) →
        (match o.guard with
          | none => true = true
          | some (j, w) => ∃ d v, (ops[j]?).bind (·.dst) = some d ∧ lk fr d = .lit v ∧ true = (yb v == some w)) →
        ∃ acc' ss' fr', K acc' ss' fr' ∧ Lex fs P B N ops fr0 acc'.reverse fr' ss' ∧ acc'.length = ops.size ∧ (∃ m, ss' = m ++ ss) := by
      intro hk hgd
      have hss : 0 < ss.length := by rw [hl.st]; omega
      obtain ⟨s0, sr, rfl⟩ : ∃ s0 sr, ss = s0 :: sr := by cases ss with
        | nil => simp at hss
        | cons a b => exact ⟨a, b, rfl⟩
      split at hk
      · next f args ts hop =>
        split at hk
        · next hie =>
          unfold ECallV at hk
          split at hk
          · next i first cap hf =>
            obtain ⟨r, σ', hE, hdst, hk⟩ := hk
            have hcall : isCall fs o.op = false := by unfold isCall; rw [hie]; rfl
            refine hgo true true r _ (σ' :: s0 :: sr) ⟨[σ'], rfl⟩ (hl.snoc hd hg ho hdst hgd (fun h => by cases h) (fun _ => hie.symm) (fun _ _ => rfl) (fun _ hc => by rw [hcall] at hc; cases hc) (by simp) ⟨[σ'], rfl⟩ (fun _ _ => ?_)) hk
            refine ⟨by simp, ?_⟩
            have e1 : (σ' :: s0 :: sr).reverse.getD ((s0 :: sr).length - 1) [] = s0 := by simp [List.getD_eq_getElem?_getD]
            have e2 : (σ' :: s0 :: sr).reverse.getD (if true = true then (s0 :: sr).length - 1 + 1 else (s0 :: sr).length - 1) [] = σ' := by
              simp [List.getD_eq_getElem?_getD]
            rw [e1, e2]
            unfold OpEx
            rw [hop]
            simp only [hf]
            exact .inr hE
          · exact hk.elim
        · next hie =>
          have hie' : isEff fs o.op = false := by simpa using hie
          unfold PCall at hk
          split at hk
          · next i first cap hf =>
            obtain ⟨r, hpc, hpu, hdst, hk⟩ := hk
            have hcall : isCall fs o.op = true := by unfold isCall; rw [hie', hop]; rfl
            refine hgo true false r 0 _ ⟨[], rfl⟩ (hl.snoc hd hg ho hdst hgd (fun h => by cases h) (fun _ => hie'.symm) (fun _ hc => by rw [hcall] at hc; cases hc) (fun _ _ σ => ?_) (by simp) ⟨[], rfl⟩ (fun _ hc => by rw [hcall] at hc; cases hc)) hk
            unfold OpEx
            rw [hop]
            simp only [hf]
            exact .inl ⟨trivial, hpc, hpu⟩
          · exact hk.elim
      · next op hnc =>
        have hcall : isCall fs o.op = false := by
          cases hc : isCall fs o.op with
          | false => rfl
          | true =>
            unfold isCall at hc
            rw [Bool.and_eq_true] at hc
            have hc := hc.2
            split at hc
            · next h => exact absurd h (by intro h; exact hnc _ _ _ h)
            · cases hc
        obtain ⟨r, σ', ⟨hdst, hk⟩, hex⟩ := pt_aef P B o.op (ev fr) ((s0 :: sr).headD []) _ hk
        have hop : OpEx P B o (ev fr) s0 r σ' := by
          unfold OpEx
          split
          · next f args ts h => exact absurd h (by intro h; exact hnc _ _ _ h)
          · exact hex (fun r' s' => r' = r ∧ s' = σ') ⟨rfl, rfl⟩
        have hrev : ∀ (l : List Store), (s0 :: sr).reverse.getD sr.length [] = s0 := by intro _; simp [List.getD_eq_getElem?_getD]
        split at hk
        · next hie =>
          refine hgo true true r _ (σ' :: s0 :: sr) ⟨[σ'], rfl⟩ (hl.snoc hd hg ho hdst hgd (fun h => by cases h) (fun _ => hie.symm) (fun _ _ => rfl) (fun _ hc => by rw [hcall] at hc; cases hc) (by simp) ⟨[σ'], rfl⟩ (fun _ _ => ?_)) hk
          refine ⟨by simp, ?_⟩
          have e1 : (σ' :: s0 :: sr).reverse.getD ((s0 :: sr).length - 1) [] = s0 := by simp [List.getD_eq_getElem?_getD]
          have e2 : (σ' :: s0 :: sr).reverse.getD (if true = true then (s0 :: sr).length - 1 + 1 else (s0 :: sr).length - 1) [] = σ' := by
            simp [List.getD_eq_getElem?_getD]
          rw [e1, e2]; exact hop
        · next hie =>
          obtain ⟨hσ, hk⟩ := hk
          have hσ' : σ' = s0 := hσ
          subst hσ'
          refine hgo true false r _ (σ' :: sr) ⟨[], rfl⟩ (hl.snoc hd hg ho hdst hgd (fun h => by cases h) (fun _ => by simpa using hie) (fun _ _ => rfl) (fun _ hc => by rw [hcall] at hc; cases hc) (by simp) ⟨[], rfl⟩ (fun _ _ => ?_)) hk
          refine ⟨by simp, ?_⟩
          have e1 : (σ' :: sr).reverse.getD ((σ' :: sr).length - 1) [] = σ' := by simp [List.getD_eq_getElem?_getD]
          simp only [Bool.false_eq_true, if_false]
          rw [e1]; exact hop
    have noo : dOk N o.dst ∧ aD fs P B N ops rest (putF o.dst (.lit undef) fr) (⟨o, false, false, fr, .lit undef, 0⟩ :: acc) ss K →
        (match o.guard with
          | none => false = true
          | some (j, w) => ∃ d v, (ops[j]?).bind (·.dst) = some d ∧ lk fr d = .lit v ∧ false = (yb v == some w)) →
        ∃ acc' ss' fr', K acc' ss' fr' ∧ Lex fs P B N ops fr0 acc'.reverse fr' ss' ∧ acc'.length = ops.size ∧ (∃ m, ss' = m ++ ss) := by
      intro hk hgd
      exact hgo false false (.lit undef) 0 ss ⟨[], rfl⟩ (hl.snoc hd hg ho hk.1 hgd (fun _ => ⟨rfl, rfl⟩) (fun h => by cases h) (fun h _ => by cases h) (fun h => by cases h) (by simp) ⟨[], rfl⟩ (fun h => by cases h)) hk.2
    simp only [aD, awant] at hk
    split at hk
    · next hgd => exact yes hk (by rw [hgd])
    · next j want hgd =>
      split at hk
      · next d hdd =>
        split at hk
        · next b hb =>
          split at hk
          · next hbw => exact yes hk (by rw [hgd]; exact ⟨d, b, hdd, hb, by simp [hbw]⟩)
          · next hbw => exact noo hk (by rw [hgd]; exact ⟨d, b, hdd, hb, by simp [hbw]⟩)
        · exact hk.elim
      · exact hk.elim

theorem stage_spec {ops : Array Oper} {i : Nat} {o : Oper} {lo hi : Nat} (h : stageOk fs ops i o lo hi = true) :
    (lo = 0 ∨ ∃ (j : Nat) (p : Oper), ops[j]? = some p ∧ isEff fs p.op = true ∧ edgeOn o j = true ∧ lo ≤ effCnt fs (ops.toList.take j) + 1) ∧
    (effCnt fs ops.toList ≤ hi ∨ ∃ (j : Nat) (p : Oper), ops[j]? = some p ∧ isEff fs p.op = true ∧ edgeOn p i = true ∧ effCnt fs (ops.toList.take j) ≤ hi) := by
  unfold stageOk at h
  rw [Bool.and_eq_true, Bool.or_eq_true, Bool.or_eq_true] at h
  obtain ⟨h1, h2⟩ := h
  constructor
  · rcases h1 with h1 | h1
    · exact .inl (by simpa using h1)
    · right
      obtain ⟨j, _, hj⟩ := List.any_eq_true.1 h1
      split at hj
      · next p hp => simp only [Bool.and_eq_true, decide_eq_true_eq] at hj; exact ⟨j, p, hp, hj.1.1, hj.1.2, hj.2⟩
      · cases hj
  · rcases h2 with h2 | h2
    · exact .inl (by simpa using h2)
    · right
      obtain ⟨j, _, hj⟩ := List.any_eq_true.1 h2
      split at hj
      · next p hp => simp only [Bool.and_eq_true, decide_eq_true_eq] at hj; exact ⟨j, p, hp, hj.1.1, hj.1.2, hj.2⟩
      · cases hj

theorem obl_get {ss : List Store} : ∀ {infos : List Info} {tab : List (Nat × Nat)} {i : Nat} {e : Info} {t : Nat × Nat}, obl fs P B ss infos tab → infos[i]? = some e → tab[i]? = some t →
    e.want = true → isCall fs e.o.op = false → e.eff = false → oblS P B e ss t.1 (t.2 + 1 - t.1)
  | e0 :: r, t0 :: ts, 0, e, t, h, hi, ht, hw, hc, he => by
    simp at hi ht; subst hi ht
    have := h.1
    rw [if_neg (by simp [hw, hc]), if_neg (by simp [he])] at this
    exact this
  | e0 :: r, t0 :: ts, i + 1, e, t, h, hi, ht, hw, hc, he => obl_get h.2 (by simpa using hi) (by simpa using ht) hw hc he
  | [], _, i, e, t, h, hi, _, _, _, _ => by simp at hi
  | _ :: _, [], i, e, t, h, _, ht, _, _, _ => by simp at ht

theorem oblS_get {e : Info} {ss : List Store} : ∀ (k s0 s : Nat), oblS P B e ss s0 k → s0 ≤ s → s < s0 + k → s ≠ e.rank → OpEx P B e.o (ev e.fr) (ss.getD s []) e.V (ss.getD s [])
  | 0, s0, s, _, h1, h2, _ => by omega
  | k + 1, s0, s, h, h1, h2, hne => by
    by_cases e0 : s0 = s
    · subst e0
      have := h.1
      rw [if_neg hne] at this; exact this
    · exact oblS_get k (s0 + 1) s h.2 (by omega) (by omega) hne

theorem effCnt_mono (l : List Oper) : ∀ {i j : Nat} {o : Oper}, i < j → l[i]? = some o → isEff fs o.op = true → effCnt fs (l.take i) < effCnt fs (l.take j) := by
  intro i j o hij hi he
  have h1 : l.take j = l.take i ++ (l.drop i).take (j - i) := by
    rw [← List.take_append_drop i (l.take j)]
    congr 1
    · rw [List.take_take, Nat.min_eq_left (by omega)]
    · rw [List.drop_take]
  obtain ⟨k, hk⟩ : ∃ k, j - i = k + 1 := ⟨j - i - 1, by omega⟩
  have hil := (List.getElem?_eq_some_iff.1 hi).1
  have h2 : (l.drop i).take (j - i) = o :: (l.drop (i + 1)).take k := by
    rw [hk, List.drop_eq_getElem_cons hil, List.take_succ_cons]
    have := (List.getElem?_eq_some_iff.1 hi).2
    rw [this]
  rw [h1, h2]
  unfold effCnt
  rw [List.filter_append, List.length_append, List.filter_cons_of_pos (p := fun o : Oper => isEff fs o.op) he]
  simp

theorem effCnt_surj (l : List Oper) : ∀ r, r < effCnt fs l → ∃ (i : Nat) (o : Oper), l[i]? = some o ∧ isEff fs o.op = true ∧ effCnt fs (l.take i) = r := by
  induction l with
  | nil => intro r hr; simp [effCnt] at hr
  | cons o l ih =>
    intro r hr
    by_cases he : isEff fs o.op = true
    · have hc : effCnt fs (o :: l) = effCnt fs l + 1 := by unfold effCnt; rw [List.filter_cons_of_pos (p := fun o : Oper => isEff fs o.op) he]; rfl
      cases r with
      | zero => exact ⟨0, o, rfl, he, rfl⟩
      | succ r =>
        obtain ⟨i, p, h1, h2, h3⟩ := ih r (by omega)
        refine ⟨i + 1, p, by simpa using h1, h2, ?_⟩
        rw [List.take_succ_cons, ← h3]
        unfold effCnt; rw [List.filter_cons_of_pos (p := fun o : Oper => isEff fs o.op) he]; rfl
    · have hc : effCnt fs (o :: l) = effCnt fs l := by unfold effCnt; rw [List.filter_cons_of_neg (p := fun o : Oper => isEff fs o.op) he]
      obtain ⟨i, p, h1, h2, h3⟩ := ih r (by omega)
      refine ⟨i + 1, p, by simpa using h1, h2, ?_⟩
      rw [List.take_succ_cons, ← h3]
      unfold effCnt; rw [List.filter_cons_of_neg (p := fun o : Oper => isEff fs o.op) he]

theorem ADraw.intro {ops : Array Oper} {fr : Frm} {σ : Store} {K : ASt → Prop} (hm : P.follows .mixedOrders = true) (hd : drawB fs ops = true) (tab : List (Nat × Nat)) (ht : effCnt fs ops.toList = 0 ∨ tabB fs ops tab = true)
    (h : aD fs P B N ops ops.toList fr [] [σ] fun acc ss fr' => (effCnt fs ops.toList = 0 ∨ obl fs P B ss.reverse acc.reverse tab) ∧ K ⟨fr', ss.headD []⟩) : ADraw P B nb N ops ⟨fr, σ⟩ K := by
  refine ⟨hm, fun m0 w0 m a w hs Q hn => ?_⟩
  have htab : effCnt fs ops.toList ≠ 0 → ∀ (i : Nat) (o : Oper), ops[i]? = some o → ∃ t, tab[i]? = some t ∧ stageOk fs ops i o t.1 t.2 = true ∧ (isEff fs o.op = true → o.guard = none) := by
    intro hne i o ho
    replace ht := ht.resolve_left hne
    unfold tabB at ht
    rw [Bool.and_eq_true] at ht
    obtain ⟨ht1, ht2⟩ := ht
    have ht1 : tab.length = ops.size := by simpa using ht1
    have hin : i < ops.size := (Array.getElem?_eq_some_iff.1 ho).1
    have ht : tab[i]? = some (tab[i]'(by omega)) := List.getElem?_eq_getElem (by omega)
    have := List.all_eq_true.1 ht2 i (by simpa using hin)
    rw [ho, ht] at this
    simp only [Bool.and_eq_true] at this
    refine ⟨_, ht, this.1, fun he => ?_⟩
    have := this.2
    rw [he] at this; simpa using this
  have hg : ∀ (i : Nat) (o : Oper), ops[i]? = some o → isEff fs o.op = true → o.guard = none := fun i o ho he => by
    have hne : effCnt fs ops.toList ≠ 0 := by
      have := effCnt_mono ops.toList (i := i) (j := ops.size) (o := o) (Array.getElem?_eq_some_iff.1 ho).1 (by simpa using ho) he
      rw [List.take_of_length_le (i := ops.size) (by simp)] at this
      omega
    obtain ⟨_, _, _, h⟩ := htab hne i o ho
    exact h he
  have lex0 : Lex fs P B N ops fr ([] : List Info).reverse fr [σ] := by
    refine ⟨by simp, ?_, ?_, ?_, ?_, ?_, ?_, ?_, ?_, ?_, fun t => ⟨fun j e hj => by simp at hj, fun _ => rfl⟩, by simp [effCnt]⟩ <;> (intro i e hi; simp at hi)
  obtain ⟨acc, ss, frN, ⟨hobl, hK⟩, hl, hlen, hmore⟩ := aD_sound hd hg ops.toList fr [] [σ] h (by simp) lex0
  have hSlen : ss.length = effCnt fs ops.toList + 1 := by
    have := hl.st
    rw [List.length_reverse, hlen] at this
    rw [this]; congr 2; apply List.take_of_length_le; simp
  have hlast : ss.reverse.getD (effCnt fs ops.toList) [] = ss.headD [] := by
    cases ss with
    | nil => simp at hSlen
    | cons a r => simp at hSlen; simp [List.getD_eq_getElem?_getD, ← hSlen]
  have hfirst : ss.reverse.getD 0 [] = σ := by
    obtain ⟨m, rfl⟩ := hmore
    simp [List.getD_eq_getElem?_getD]
  have plan : PlanOk fs P B N ops fr acc.reverse (fun s => ss.reverse.getD s []) (effCnt fs ops.toList) := by
    refine ⟨by simp [hlen], hl.op, fun i e d hi hd' => by have := hl.dst i e hi; rw [hd'] at this; exact this, hl.lex, hl.guard, hl.no, ?_, ?_, ?_, ?_⟩
    · intro i e hi hw he s hs h1 h2
      cases hc : isCall fs e.o.op with
      | true => exact hl.call i e hi hw hc _
      | false =>
        obtain ⟨hx1, hx2⟩ := hl.ex i e hi hw hc
        rw [he] at hx2
        simp only [Bool.false_eq_true, if_false] at hx2
        by_cases hsr : s = e.rank
        · subst hsr; exact hx2
        · have hne : effCnt fs ops.toList ≠ 0 := by intro h0; rw [hSlen] at hx1; omega
          replace hobl := hobl.resolve_left hne
          obtain ⟨t, ht, hst, _⟩ := htab hne i e.o (hl.op i e hi)
          obtain ⟨hlo, hhi⟩ := stage_spec hst
          have hlo' : t.1 ≤ s := by
            rcases hlo with h0 | ⟨j, p, hp1, hp2, hp3, hp4⟩
            · omega
            · obtain ⟨f, hf⟩ : ∃ f, acc.reverse[j]? = some f := by
                have : j < acc.reverse.length := by simp [hlen]; exact (Array.getElem?_eq_some_iff.1 hp1).1
                exact ⟨_, List.getElem?_eq_getElem this⟩
              have hfo : f.o = p := by have := hl.op j f hf; rw [hp1] at this; exact (Option.some.inj this).symm
              have hfg := hg j p hp1 hp2
              have hfw : f.want = true := by have := hl.guard j f hf; rw [hfo, hfg] at this; exact this
              have hfe : f.eff = true := by rw [hl.eff j f hf hfw, hfo]; exact hp2
              have := h1 j f hf hfe hp3
              rw [hl.rank j f hf hfw (by unfold isCall; rw [hfo, hp2]; rfl)] at this; omega
          have hhi' : s ≤ t.2 := by
            rcases hhi with h0 | ⟨j, p, hp1, hp2, hp3, hp4⟩
            · omega
            · obtain ⟨f, hf⟩ : ∃ f, acc.reverse[j]? = some f := by
                have : j < acc.reverse.length := by simp [hlen]; exact (Array.getElem?_eq_some_iff.1 hp1).1
                exact ⟨_, List.getElem?_eq_getElem this⟩
              have hfo : f.o = p := by have := hl.op j f hf; rw [hp1] at this; exact (Option.some.inj this).symm
              have hfg := hg j p hp1 hp2
              have hfw : f.want = true := by have := hl.guard j f hf; rw [hfo, hfg] at this; exact this
              have hfe : f.eff = true := by rw [hl.eff j f hf hfw, hfo]; exact hp2
              have := h2 j f hf hfe (by rw [hfo]; exact hp3)
              rw [hl.rank j f hf hfw (by unfold isCall; rw [hfo, hp2]; rfl)] at this; omega
          exact oblS_get _ _ s (obl_get hobl hi ht hw hc he) hlo' (by omega) hsr
    · intro i e hi he
      have hw : e.want = true := by
        cases hw : e.want with
        | true => rfl
        | false => have := (hl.no i e hi hw).2; rw [he] at this; cases this
      have hie : isEff fs e.o.op = true := by rw [← hl.eff i e hi hw]; exact he
      have hc : isCall fs e.o.op = false := by unfold isCall; rw [hie]; rfl
      obtain ⟨hx1, hx2⟩ := hl.ex i e hi hw hc
      rw [he] at hx1 hx2
      simp only [if_true] at hx1 hx2
      exact ⟨hw, by omega, hie, hx2⟩
    · intro r hr
      obtain ⟨i, o, hi, he, hrk⟩ := effCnt_surj ops.toList r hr
      have hio : ops[i]? = some o := by simpa using hi
      have hin : i < acc.reverse.length := by simp [hlen]; exact (Array.getElem?_eq_some_iff.1 hio).1
      refine ⟨i, acc.reverse[i], List.getElem?_eq_getElem hin, ?_, ?_⟩
      · have hf := List.getElem?_eq_getElem hin
        have hfo : (acc.reverse[i]).o = o := by have := hl.op i _ hf; rw [hio] at this; exact (Option.some.inj this).symm
        have hfw : (acc.reverse[i]).want = true := by have := hl.guard i _ hf; rw [hfo, hg i o hio he] at this; exact this
        rw [hl.eff i _ hf hfw, hfo]; exact he
      · have hf := List.getElem?_eq_getElem hin
        have hfo : (acc.reverse[i]).o = o := by have := hl.op i _ hf; rw [hio] at this; exact (Option.some.inj this).symm
        have hfw : (acc.reverse[i]).want = true := by have := hl.guard i _ hf; rw [hfo, hg i o hio he] at this; exact this
        rw [hl.rank i _ hf hfw (by unfold isCall; rw [hfo, he]; rfl), hrk]
    · intro i j e f hi hj he hf hij
      have hw : e.want = true := by
        cases hw : e.want with
        | true => rfl
        | false => have := (hl.no i e hi hw).2; rw [he] at this; cases this
      have hwf : f.want = true := by
        cases hw : f.want with
        | true => rfl
        | false => have := (hl.no j f hj hw).2; rw [hf] at this; cases this
      rw [hl.rank i e hi hw (by unfold isCall; rw [← hl.eff i e hi hw, he]; rfl), hl.rank j f hj hwf (by unfold isCall; rw [← hl.eff j f hj hwf, hf]; rfl)]
      refine effCnt_mono ops.toList hij (o := e.o) (by have := hl.op i e hi; simpa using this) ?_
      rw [← hl.eff i e hi hw]; exact he
  have hstart : ASim B nb N m0 w0 ⟨fr, ss.reverse.getD 0 []⟩ m a w := by rw [hfirst]; exact hs
  refine draw_core hd plan hl.cur (K := K) (by rw [hlast]; exact hK) hn ops.size _ fr 0 m a w (by simp) ?_ ?_ ?_ (Nat.zero_le _) ?_ hstart
  · exact Nat.le_trans (List.length_filter_le _ _) (by simp)
  · intro i o ho hl'
    have hin : i < ops.size := (Array.getElem?_eq_some_iff.1 ho).1
    simp [hin] at hl'
  · intro t
    refine ⟨fun j e hj hx => ?_, fun _ => rfl⟩
    have hin : j < ops.size := by have := (List.getElem?_eq_some_iff.1 hj).1; simpa [hlen] using this
    simp [hin] at hx
  · intro j e hj he
    have hin : j < ops.size := by have := (List.getElem?_eq_some_iff.1 hj).1; simpa [hlen] using this
    simp [hin]

/-- Operations that do not look at the store. -/
def sfree : Op → Bool
  | .move _ | .assign _ | .pick _ _ _ | .binOp _ _ _ _ _ | .unOp _ _ _ | .convert _ _ _ | .makeFunc _ _ _ => true
  | _ => false

def exactB (fs : List FuncId) (ops : Array Oper) (tab : List (Nat × Nat)) : Bool :=
  (List.range ops.size).all fun i => match ops[i]?, tab[i]? with
    | some o, some t => isEff fs o.op || isCall fs o.op || sfree o.op || (t == (effCnt fs (ops.toList.take i), effCnt fs (ops.toList.take i)))
    | _, _ => true

def exactX (fs : List FuncId) (ops : Array Oper) (tab : List (Nat × Nat)) (xs : List Bool) : Bool :=
  (List.range ops.size).all fun i => match ops[i]?, tab[i]? with
    | some o, some t => isEff fs o.op || isCall fs o.op || (match xs[i]? with
      | some x => !x || sfree o.op || (t == (effCnt fs (ops.toList.take i), effCnt fs (ops.toList.take i)))
      | none => false)
    | _, _ => true

theorem exactX_get {fs : List FuncId} {ops : Array Oper} {tab : List (Nat × Nat)} {xs : List Bool} (h : exactX fs ops tab xs = true) {i : Nat} {o : Oper} {t : Nat × Nat} (ho : ops[i]? = some o) (ht : tab[i]? = some t) (hc : isCall fs o.op = false) (he : isEff fs o.op = false) :
    ∃ x, xs[i]? = some x ∧ (x = true → sfree o.op = true ∨ t = (effCnt fs (ops.toList.take i), effCnt fs (ops.toList.take i))) := by
  unfold exactX at h
  have := List.all_eq_true.1 h i (by simpa using (Array.getElem?_eq_some_iff.1 ho).1)
  rw [ho, ht] at this
  simp only [hc, he, Bool.false_or] at this
  split at this
  · next x hx =>
    refine ⟨x, hx, fun hxt => ?_⟩
    subst hxt
    simpa using this
  · cases this

theorem exact_get {ops : Array Oper} {tab : List (Nat × Nat)} (h : exactB fs ops tab = true) {i : Nat} {o : Oper} {t : Nat × Nat} (ho : ops[i]? = some o) (ht : tab[i]? = some t) (hc : isCall fs o.op = false) (he : isEff fs o.op = false) :
    sfree o.op = true ∨ t = (effCnt fs (ops.toList.take i), effCnt fs (ops.toList.take i)) := by
  unfold exactB at h
  have := List.all_eq_true.1 h i (by simpa using (Array.getElem?_eq_some_iff.1 ho).1)
  rw [ho, ht] at this
  simp only [hc, he, Bool.false_or, Bool.or_eq_true, beq_iff_eq] at this
  exact this

theorem OpEx.free {o : Oper} {ρ : Operand → AV} {σ σ' : Store} {V : AV} (hs : sfree o.op = true) (hc : isCall fs o.op = false) (h : OpEx P B o ρ σ V σ) : OpEx P B o ρ σ' V σ' := by
  unfold OpEx at h ⊢
  split at h
  · next f args ts hop => rw [hop] at hs; cases hs
  · next hn =>
    obtain ⟨dst, op, ty, pos, after, guard⟩ := o
    simp only at hs h hn ⊢
    cases op with
    | move x => exact ⟨h.1, by first | rfl | trivial⟩
    | assign x => exact ⟨h.1, by first | rfl | trivial⟩
    | pick c a b =>
      simp only [aef] at h ⊢
      generalize ρ c = v at h ⊢
      cases v <;> try exact h.elim
      next v =>
        cases v <;> try exact h.elim
        next b' => cases b' <;> exact ⟨h.1, by first | rfl | trivial⟩
    | binOp op t x y yt =>
      simp only [aef] at h ⊢
      obtain ⟨r, h1, h2⟩ := pt_aBin P op t (ρ x) (ρ y) _ h
      exact h2 _ ⟨h1.1, by first | rfl | trivial⟩
    | unOp op t x =>
      simp only [aef] at h ⊢
      obtain ⟨r, h1, h2⟩ := pt_aUn op (ρ x) _ h
      exact h2 _ ⟨h1.1, by first | rfl | trivial⟩
    | convert s d x =>
      simp only [aef] at h ⊢
      obtain ⟨r, h1, h2⟩ := pt_aConv P s d (ρ x) _ h
      exact h2 _ ⟨h1.1, by first | rfl | trivial⟩
    | makeFunc fn a b => exact ⟨h.1, by first | rfl | trivial⟩
    | _ => cases hs

/-- Operations that look at the store by their operands alone. -/
def plainOp : Op → Bool
  | .load _ _ | .indexAddr _ _ _ | .index _ _ _ | .extract _ _ => true
  | .call { callee := .builtin .len, .. } => true
  | _ => false
/-- Operations that only make an address. -/
def addrOf : Op → Option Operand
  | .fieldAddr _ x _ | .nilCheck x => some x
  | _ => none

/-- Why an operation may run at another stage. -/
def freeWhy (e : Info) (x : Bool) (ss : List Store) : Prop :=
  x = true ∨ (plainOp e.o.op = true ∧ purs (e.o.op.operands.toList.map (ev e.fr))) ∨ (∃ y, addrOf e.o.op = some y ∧ ∀ σ, σ ∈ ss → liveP σ (ev e.fr y))
def FOK (infos : List Info) (xs : List Bool) (ss : List Store) : Prop := ∀ (i : Nat) (e : Info) (x : Bool), infos[i]? = some e → xs[i]? = some x → e.want = true → isEff [] e.o.op = false → (∀ f args ts, e.o.op ≠ .call { callee := .value f, args := args, argTypes := ts }) → freeWhy e x ss

theorem OpEx.addr {o : Oper} {ρ : Operand → AV} {σ σ' : Store} {V : AV} {y : Operand} (ha : addrOf o.op = some y) (hl : liveP σ' (ρ y)) (h : OpEx P B o ρ σ V σ) : OpEx P B o ρ σ' V σ' := by
  unfold OpEx at h ⊢
  split at h
  · next f args ts hop => rw [hop] at ha; cases ha
  · next hn =>
    obtain ⟨dst, op, ty, pos, after, guard⟩ := o
    simp only at ha h hn ⊢
    cases op with
    | fieldAddr t x f =>
      simp only [addrOf, Option.some.injEq] at ha
      subst ha
      simp only [aef, aFieldAddr] at h ⊢
      split at h
      · split at h
        · exact ⟨hl, h.2.1, by first | rfl | trivial⟩
        · exact h.elim
      · exact h.elim
    | nilCheck x =>
      simp only [addrOf, Option.some.injEq] at ha
      subst ha
      simp only [aef] at h ⊢
      exact ⟨hl, h.2.1, by first | rfl | trivial⟩
    | _ => simp [addrOf] at ha

theorem aLoad_pure {t : TypeId} {p : AV} (hp : p.pure) (σ σ' : Store) (K : AV → Prop) : aLoad P t σ p K = aLoad P t σ' p K := by
  cases p <;> first | exact hp.elim | rfl
theorem aIndexAddr_pure {t : TypeId} {p i : AV} (hp : p.pure) (σ σ' : Store) (K : AV → Prop) : aIndexAddr P t σ p i K = aIndexAddr P t σ' p i K := by
  cases p <;> first | exact hp.elim | rfl
theorem aLen_pure {t : TypeId} {p : AV} (hp : p.pure) (σ σ' : Store) (K : AV → Prop) : aLen P t σ p K = aLen P t σ' p K := by
  cases p <;> first | exact hp.elim | rfl | skip
  next v =>
    cases v <;> first | rfl | skip
    next a l c =>
      cases a <;> first | rfl | skip
      cases l <;> cases c <;> rfl

theorem OpEx.plain {o : Oper} {ρ : Operand → AV} {σ σ' : Store} {V : AV} (ha : plainOp o.op = true) (hp : purs (o.op.operands.toList.map ρ)) (h : OpEx P B o ρ σ V σ) : OpEx P B o ρ σ' V σ' := by
  unfold OpEx at h ⊢
  split at h
  · next f args ts hop => rw [hop] at ha; cases ha
  · next hn =>
    obtain ⟨dst, op, ty, pos, after, guard⟩ := o
    simp only at ha h hn hp ⊢
    cases op with
    | load t x =>
      have hx : (ρ x).pure := purs_get (i := 0) hp (by simp [Op.operands])
      simp only [aef, and_true] at h ⊢
      rw [aLoad_pure hx σ' σ]; exact h
    | indexAddr t x i =>
      have hx : (ρ x).pure := purs_get (i := 0) hp (by simp [Op.operands])
      simp only [aef, and_true] at h ⊢
      rw [aIndexAddr_pure hx σ' σ]; exact h
    | index t x i =>
      simp only [aef, aIndex, and_true] at h ⊢
      exact h
    | extract x i =>
      simp only [aef, and_true] at h ⊢
      exact h
    | call c =>
      obtain ⟨cal, args, ts⟩ := c
      cases cal with
      | builtin b =>
        cases b <;> try (simp [plainOp] at ha; done)
        have hp' : purs (args.toList.map ρ) := by simpa [Op.operands, Call.operands] using hp
        simp only [aef] at h ⊢
        generalize args.toList.map ρ = l at h hp' ⊢
        match l, hp', h with
        | [], _, h => exact h.elim
        | [x], hp', h =>
          simp only [aBuiltin, and_true] at h ⊢
          split at h
          · rw [aLen_pure hp'.1 σ' σ]; exact h
          · exact h.elim
        | _ :: _ :: _, _, h => exact h.elim
      | _ => simp [plainOp] at ha
    | _ => cases ha

theorem ADraw.exact {ops : Array Oper} {fr : Frm} {σ : Store} {K : ASt → Prop} (hm : P.follows .mixedOrders = true) (hd : drawB fs ops = true) (tab : List (Nat × Nat)) (ht : effCnt fs ops.toList = 0 ∨ tabB fs ops tab = true) (xs : List Bool) (hxb : exactX fs ops tab xs = true)
    (h : aD fs P B N ops ops.toList fr [] [σ] fun acc ss fr' => FOK acc.reverse xs ss ∧ K ⟨fr', ss.headD []⟩) : ADraw P B nb N ops ⟨fr, σ⟩ K := by
  refine ⟨hm, fun m0 w0 m a w hs Q hn => ?_⟩
  have htab : effCnt fs ops.toList ≠ 0 → ∀ (i : Nat) (o : Oper), ops[i]? = some o → ∃ t, tab[i]? = some t ∧ stageOk fs ops i o t.1 t.2 = true ∧ (isEff fs o.op = true → o.guard = none) := by
    intro hne i o ho
    replace ht := ht.resolve_left hne
    unfold tabB at ht
    rw [Bool.and_eq_true] at ht
    obtain ⟨ht1, ht2⟩ := ht
    have ht1 : tab.length = ops.size := by simpa using ht1
    have hin : i < ops.size := (Array.getElem?_eq_some_iff.1 ho).1
    have ht : tab[i]? = some (tab[i]'(by omega)) := List.getElem?_eq_getElem (by omega)
    have := List.all_eq_true.1 ht2 i (by simpa using hin)
    rw [ho, ht] at this
    simp only [Bool.and_eq_true] at this
    refine ⟨_, ht, this.1, fun he => ?_⟩
    have := this.2
    rw [he] at this; simpa using this
  have hg : ∀ (i : Nat) (o : Oper), ops[i]? = some o → isEff fs o.op = true → o.guard = none := fun i o ho he => by
    have hne : effCnt fs ops.toList ≠ 0 := by
      have := effCnt_mono ops.toList (i := i) (j := ops.size) (o := o) (Array.getElem?_eq_some_iff.1 ho).1 (by simpa using ho) he
      rw [List.take_of_length_le (i := ops.size) (by simp)] at this
      omega
    obtain ⟨_, _, _, h⟩ := htab hne i o ho
    exact h he
  have lex0 : Lex fs P B N ops fr ([] : List Info).reverse fr [σ] := by
    refine ⟨by simp, ?_, ?_, ?_, ?_, ?_, ?_, ?_, ?_, ?_, fun t => ⟨fun j e hj => by simp at hj, fun _ => rfl⟩, by simp [effCnt]⟩ <;> (intro i e hi; simp at hi)
  obtain ⟨acc, ss, frN, ⟨hfok, hK⟩, hl, hlen, hmore⟩ := aD_sound hd hg ops.toList fr [] [σ] h (by simp) lex0
  have hSlen : ss.length = effCnt fs ops.toList + 1 := by
    have := hl.st
    rw [List.length_reverse, hlen] at this
    rw [this]; congr 2; apply List.take_of_length_le; simp
  have hlast : ss.reverse.getD (effCnt fs ops.toList) [] = ss.headD [] := by
    cases ss with
    | nil => simp at hSlen
    | cons a r => simp at hSlen; simp [List.getD_eq_getElem?_getD, ← hSlen]
  have hfirst : ss.reverse.getD 0 [] = σ := by
    obtain ⟨m, rfl⟩ := hmore
    simp [List.getD_eq_getElem?_getD]
  have plan : PlanOk fs P B N ops fr acc.reverse (fun s => ss.reverse.getD s []) (effCnt fs ops.toList) := by
    refine ⟨by simp [hlen], hl.op, fun i e d hi hd' => by have := hl.dst i e hi; rw [hd'] at this; exact this, hl.lex, hl.guard, hl.no, ?_, ?_, ?_, ?_⟩
    · intro i e hi hw he s hs h1 h2
      cases hc : isCall fs e.o.op with
      | true => exact hl.call i e hi hw hc _
      | false =>
        obtain ⟨hx1, hx2⟩ := hl.ex i e hi hw hc
        rw [he] at hx2
        simp only [Bool.false_eq_true, if_false] at hx2
        by_cases hsr : s = e.rank
        · subst hsr; exact hx2
        · have hne : effCnt fs ops.toList ≠ 0 := by intro h0; rw [hSlen] at hx1; omega
          obtain ⟨t, ht, hst, _⟩ := htab hne i e.o (hl.op i e hi)
          obtain ⟨hlo, hhi⟩ := stage_spec hst
          have hlo' : t.1 ≤ s := by
            rcases hlo with h0 | ⟨j, p, hp1, hp2, hp3, hp4⟩
            · omega
            · obtain ⟨f, hf⟩ : ∃ f, acc.reverse[j]? = some f := by
                have : j < acc.reverse.length := by simp [hlen]; exact (Array.getElem?_eq_some_iff.1 hp1).1
                exact ⟨_, List.getElem?_eq_getElem this⟩
              have hfo : f.o = p := by have := hl.op j f hf; rw [hp1] at this; exact (Option.some.inj this).symm
              have hfg := hg j p hp1 hp2
              have hfw : f.want = true := by have := hl.guard j f hf; rw [hfo, hfg] at this; exact this
              have hfe : f.eff = true := by rw [hl.eff j f hf hfw, hfo]; exact hp2
              have := h1 j f hf hfe hp3
              rw [hl.rank j f hf hfw (by unfold isCall; rw [hfo, hp2]; rfl)] at this; omega
          have hhi' : s ≤ t.2 := by
            rcases hhi with h0 | ⟨j, p, hp1, hp2, hp3, hp4⟩
            · omega
            · obtain ⟨f, hf⟩ : ∃ f, acc.reverse[j]? = some f := by
                have : j < acc.reverse.length := by simp [hlen]; exact (Array.getElem?_eq_some_iff.1 hp1).1
                exact ⟨_, List.getElem?_eq_getElem this⟩
              have hfo : f.o = p := by have := hl.op j f hf; rw [hp1] at this; exact (Option.some.inj this).symm
              have hfg := hg j p hp1 hp2
              have hfw : f.want = true := by have := hl.guard j f hf; rw [hfo, hfg] at this; exact this
              have hfe : f.eff = true := by rw [hl.eff j f hf hfw, hfo]; exact hp2
              have := h2 j f hf hfe (by rw [hfo]; exact hp3)
              rw [hl.rank j f hf hfw (by unfold isCall; rw [hfo, hp2]; rfl)] at this; omega
          have hie : isEff fs e.o.op = false := by rw [← hl.eff i e hi hw]; exact he
          obtain ⟨x, hxs, hxx⟩ := exactX_get hxb (hl.op i e hi) ht hc hie
          have hnv : ∀ f args ts, e.o.op ≠ .call { callee := .value f, args := args, argTypes := ts } := by
            intro f args ts hop
            unfold isCall at hc
            rw [hie, hop] at hc
            cases hc
          have hie0 : isEff [] e.o.op = false := by
            cases hop : e.o.op <;> rw [hop] at hie <;> first | rfl | (simp [isEff] at hie; done) | skip
            next c =>
              obtain ⟨cal, args, ts⟩ := c
              cases cal with
              | value f => exact absurd hop (hnv f args ts)
              | builtin b => cases b <;> first | rfl | (simp [isEff] at hie; done)
              | _ => rfl
          have hsin : (ss.reverse.getD s []) ∈ ss := by
            have hlt : s < ss.reverse.length := by rw [List.length_reverse, hSlen]; omega
            rw [List.getD_eq_getElem?_getD, List.getElem?_eq_getElem hlt]
            exact List.mem_reverse.1 (List.getElem_mem hlt)
          rcases hfok i e x hi hxs hw hie0 hnv with hx1' | ⟨hpl, hpu⟩ | ⟨y, hy, hlv⟩
          · rcases hxx hx1' with hsf | hte
            · exact OpEx.free hsf hc hx2
            have hrk := hl.rank i e hi hw hc
            rw [hte] at hlo' hhi'
            simp only at hlo' hhi'
            exact absurd (by rw [hrk]; exact Nat.le_antisymm hhi' hlo') hsr
          · exact OpEx.plain hpl hpu hx2
          · exact OpEx.addr hy (hlv _ hsin) hx2
    · intro i e hi he
      have hw : e.want = true := by
        cases hw : e.want with
        | true => rfl
        | false => have := (hl.no i e hi hw).2; rw [he] at this; cases this
      have hie : isEff fs e.o.op = true := by rw [← hl.eff i e hi hw]; exact he
      have hc : isCall fs e.o.op = false := by unfold isCall; rw [hie]; rfl
      obtain ⟨hx1, hx2⟩ := hl.ex i e hi hw hc
      rw [he] at hx1 hx2
      simp only [if_true] at hx1 hx2
      exact ⟨hw, by omega, hie, hx2⟩
    · intro r hr
      obtain ⟨i, o, hi, he, hrk⟩ := effCnt_surj ops.toList r hr
      have hio : ops[i]? = some o := by simpa using hi
      have hin : i < acc.reverse.length := by simp [hlen]; exact (Array.getElem?_eq_some_iff.1 hio).1
      refine ⟨i, acc.reverse[i], List.getElem?_eq_getElem hin, ?_, ?_⟩
      · have hf := List.getElem?_eq_getElem hin
        have hfo : (acc.reverse[i]).o = o := by have := hl.op i _ hf; rw [hio] at this; exact (Option.some.inj this).symm
        have hfw : (acc.reverse[i]).want = true := by have := hl.guard i _ hf; rw [hfo, hg i o hio he] at this; exact this
        rw [hl.eff i _ hf hfw, hfo]; exact he
      · have hf := List.getElem?_eq_getElem hin
        have hfo : (acc.reverse[i]).o = o := by have := hl.op i _ hf; rw [hio] at this; exact (Option.some.inj this).symm
        have hfw : (acc.reverse[i]).want = true := by have := hl.guard i _ hf; rw [hfo, hg i o hio he] at this; exact this
        rw [hl.rank i _ hf hfw (by unfold isCall; rw [hfo, he]; rfl), hrk]
    · intro i j e f hi hj he hf hij
      have hw : e.want = true := by
        cases hw : e.want with
        | true => rfl
        | false => have := (hl.no i e hi hw).2; rw [he] at this; cases this
      have hwf : f.want = true := by
        cases hw : f.want with
        | true => rfl
        | false => have := (hl.no j f hj hw).2; rw [hf] at this; cases this
      rw [hl.rank i e hi hw (by unfold isCall; rw [← hl.eff i e hi hw, he]; rfl), hl.rank j f hj hwf (by unfold isCall; rw [← hl.eff j f hj hwf, hf]; rfl)]
      refine effCnt_mono ops.toList hij (o := e.o) (by have := hl.op i e hi; simpa using this) ?_
      rw [← hl.eff i e hi hw]; exact he
  have hstart : ASim B nb N m0 w0 ⟨fr, ss.reverse.getD 0 []⟩ m a w := by rw [hfirst]; exact hs
  refine draw_core hd plan hl.cur (K := K) (by rw [hlast]; exact hK) hn ops.size _ fr 0 m a w (by simp) ?_ ?_ ?_ (Nat.zero_le _) ?_ hstart
  · exact Nat.le_trans (List.length_filter_le _ _) (by simp)
  · intro i o ho hl'
    have hin : i < ops.size := (Array.getElem?_eq_some_iff.1 ho).1
    simp [hin] at hl'
  · intro t
    refine ⟨fun j e hj hx => ?_, fun _ => rfl⟩
    have hin : j < ops.size := by have := (List.getElem?_eq_some_iff.1 hj).1; simpa [hlen] using this
    simp [hin] at hx
  · intro j e hj he
    have hin : j < ops.size := by have := (List.getElem?_eq_some_iff.1 hj).1; simpa [hlen] using this
    simp [hin]

end
end Go.Vl
