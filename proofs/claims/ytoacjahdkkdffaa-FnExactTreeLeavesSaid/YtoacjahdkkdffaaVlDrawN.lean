/- The value-level layer: drawn regions with one call whose outcome is not known ahead. -/
import Derived.Test.YtoacjahdkkdffaaVlDeep
set_option linter.unusedSimpArgs false
set_option linter.unusedVariables false
namespace Go.Vl
open Go Go.RowKit
section
variable {P : Program} {B nb N : Nat} {fs : List FuncId}

structure PlanX (xc : Nat) (fs : List FuncId) (P : Program) (B N : Nat) (ops : Array Oper) (fr0 : Frm) (infos : List Info) (Sg : Nat → Store) (S : Nat) : Prop where
  len : infos.length = ops.size
  op : ∀ (i : Nat) (e : Info), infos[i]? = some e → ops[i]? = some e.o
  dst : ∀ (i : Nat) (e : Info) d, infos[i]? = some e → e.o.dst = some d → d < N
  fr : ∀ (i : Nat) (e : Info), infos[i]? = some e → FrX (fun j => j < i) fr0 infos e.fr
  guard : ∀ (i : Nat) (e : Info), infos[i]? = some e → match e.o.guard with
    | none => e.want = true
    | some (j, want) => ∃ d v, (ops[j]?).bind (·.dst) = some d ∧ lk e.fr d = .lit v ∧ e.want = (yb v == some want)
  no : ∀ (i : Nat) (e : Info), infos[i]? = some e → e.want = false → e.V = .lit undef
  pur : ∀ (i : Nat) (e : Info), infos[i]? = some e → e.want = true → e.eff = false → ∀ s, s ≤ S →
    (∀ (j : Nat) (f : Info), infos[j]? = some f → f.eff = true → reachB ops i j = true → f.rank < s) →
    (∀ (j : Nat) (f : Info), infos[j]? = some f → f.eff = true → reachB ops j i = true → s ≤ f.rank) →
    OpEx P B e.o (ev e.fr) (Sg s) e.V (Sg s)
  eff : ∀ (i : Nat) (e : Info), infos[i]? = some e → e.eff = true → e.rank < S ∧ isEff fs e.o.op = true ∧ (i ≠ xc → if e.want = true then OpEx P B e.o (ev e.fr) (Sg e.rank) e.V (Sg (e.rank + 1)) else Sg (e.rank + 1) = Sg e.rank)
  ranks : ∀ r, r < S → ∃ (i : Nat) (e : Info), infos[i]? = some e ∧ e.eff = true ∧ e.rank = r
  mono : ∀ (i j : Nat) (e f : Info), infos[i]? = some e → infos[j]? = some f → e.eff = true → f.eff = true → i < j → e.rank < f.rank


/-- What is there behind the first operations. -/
def kkP (fs : List FuncId) (XS : List Nat) (TS : List (Nat × Nat)) (KK : List Nat → List (Nat × Nat) → Frm → List Store → List AV → Lds → Prop) (acc : List Info) (ss : List Store) (fr : Frm) : Prop :=
  ∃ xs ts ps ls, ss ≠ [] ∧ xs = XS.drop acc.length ∧ ts = TS.drop acc.length ∧ FP fs acc.reverse XS TS ps ls ∧ KK xs ts fr ss ps ls
def aLg (fs : List FuncId) (P : Program) (B N : Nat) (ops : Array Oper) : List Oper → List Nat → List (Nat × Nat) → Frm → List Store → List AV → Lds → (List Nat → List (Nat × Nat) → Frm → List Store → List AV → Lds → Prop) → Prop
  | [], xs, ts, fr, ss, ps, ls, KK => KK xs ts fr ss ps ls
  | o :: rest, xs, ts, fr, ss, ps, ls, KK => awant ops fr o.guard
      (chk (aLchk fs (xs.headD 0) o.op fr) (hold (aLop fs P B o.op fr (ss.headD []) (hold (fun r σ' => dOkK N o.dst (hold (aLg fs P B N ops rest xs.tail ts.tail (putF o.dst r fr) (if isEff fs o.op = true then σ' :: ss else ss) (aLadd (xs.headD 0) o.op fr ps) (ldOf (xs.headD 0) o.op fr r (ts.headD (0, 0)) ls) KK) .mk)) .mk)) .mk))
      (dOkK N o.dst (hold (aLg fs P B N ops rest xs.tail ts.tail (putF o.dst (.lit undef) fr) (if isEff fs o.op = true then ss.headD [] :: ss else ss) ps ls KK) .mk))
/-- A call with one of several outcomes. -/
def NCallA (P : Program) (B : Nat) (f : FuncId) (args : List AV) (σ : Store) (K : AV → Store → Prop) : Prop :=
  ∃ (X : Type) (_ : X) (V : X → AV) (T : X → Store), (∀ K' : AV → Store → Prop, (∀ x, K' (V x) (T x)) → ACall P B f args σ K') ∧ ∀ x, K (V x) (T x)
def NCallO (P : Program) (B : Nat) (op : Op) (ρ : Operand → AV) (σ : Store) (K : AV → Store → Prop) : Prop :=
  match op with
  | .call { callee := .value f, args, .. } => match ρ f with
    | .fn (.func i) first cap => NCallA P B i (first ++ args.toList.map ρ ++ cap) σ K
    | _ => False
  | _ => False
/-- All that comes behind the call waits for it. -/
def laterB (ops : Array Oper) (xc : Nat) : Bool := (List.range ops.size).all fun i => decide (i ≤ xc) || reachB ops i xc

theorem hG_open {ops : Array Oper} {bo : Box ops} {n : Nat} {l : List Oper} {b : Box (List.take n (Array.toList (List.toArray l)))} {xs : List Nat} {ts : List (Nat × Nat)} {fr : Frm} {ss : List Store} {ps : List AV} {ls : Lds} {KK : List Nat → List (Nat × Nat) → Frm → List Store → List AV → Lds → Prop} :
    aLg fs P B N (hold ops bo) (hold (List.take n (Array.toList (List.toArray l))) b) xs ts fr ss ps ls KK = aLg fs P B N (hold ops bo) (hold (List.take n l) .mk) xs ts fr ss ps ls KK := id rfl
theorem hG_nil {ops : Array Oper} {l : List Oper} {b : Box (List.take 0 l)} {xs : List Nat} {ts : List (Nat × Nat)} {fr : Frm} {ss : List Store} {ps : List AV} {ls : Lds} {KK : List Nat → List (Nat × Nat) → Frm → List Store → List AV → Lds → Prop} {k : Box KK} :
    aLg fs P B N ops (hold (List.take 0 l) b) xs ts fr ss ps ls (hold KK k) = KK xs ts fr ss ps ls := by simp [hold, aLg]
theorem hG_cons {ops : Array Oper} {bo : Box ops} {n : Nat} {o : Oper} {rest : List Oper} {br : Box (List.take (n + 1) (o :: rest))} {xs : List Nat} {ts : List (Nat × Nat)} {fr : Frm} {ss : List Store} {ps : List AV} {ls : Lds} {KK : List Nat → List (Nat × Nat) → Frm → List Store → List AV → Lds → Prop} {k : Box KK} : aLg fs P B N (hold ops bo) (hold (List.take (n + 1) (o :: rest)) br) xs ts fr ss ps ls (hold KK k) =
    awant (hold ops .mk) fr o.guard
      (hold (chk (aLchk fs (xs.headD 0) o.op fr) (hold (aLop fs P B o.op fr (ss.headD []) (hold (fun r σ' => dOkK N o.dst (hold (aLg fs P B N (hold ops .mk) (hold (List.take n rest) .mk) xs.tail ts.tail (putF o.dst r fr) (if isEff fs o.op = true then σ' :: ss else ss) (aLadd (xs.headD 0) o.op fr ps) (ldOf (xs.headD 0) o.op fr r (ts.headD (0, 0)) ls) (hold KK .mk)) .mk)) .mk)) .mk)) .mk)
      (hold (dOkK N o.dst (hold (aLg fs P B N (hold ops .mk) (hold (List.take n rest) .mk) xs.tail ts.tail (putF o.dst (.lit undef) fr) (if isEff fs o.op = true then ss.headD [] :: ss else ss) ps ls (hold KK .mk)) .mk)) .mk) := id rfl
theorem hL_dropA {ops : Array Oper} {bo : Box ops} {n : Nat} {l : List Oper} {b : Box (List.drop n (Array.toList (List.toArray l)))} {xs : List Nat} {ts : List (Nat × Nat)} {fr : Frm} {ss : List Store} {ps : List AV} {ls : Lds} {K : Frm → Store → Prop} :
    aL fs P B N (hold ops bo) (hold (List.drop n (Array.toList (List.toArray l))) b) xs ts fr ss ps ls K = aL fs P B N (hold ops bo) (hold (List.drop n l) .mk) xs ts fr ss ps ls K := id rfl
theorem hL_dropS {ops : Array Oper} {bo : Box ops} {n : Nat} {o : Oper} {l : List Oper} {b : Box (List.drop (n + 1) (o :: l))} {xs : List Nat} {ts : List (Nat × Nat)} {fr : Frm} {ss : List Store} {ps : List AV} {ls : Lds} {K : Frm → Store → Prop} :
    aL fs P B N (hold ops bo) (hold (List.drop (n + 1) (o :: l)) b) xs ts fr ss ps ls K = aL fs P B N (hold ops bo) (hold (List.drop n l) .mk) xs ts fr ss ps ls K := id rfl
theorem hL_drop0 {ops : Array Oper} {bo : Box ops} {l : List Oper} {b : Box (List.drop 0 l)} {xs : List Nat} {ts : List (Nat × Nat)} {fr : Frm} {ss : List Store} {ps : List AV} {ls : Lds} {K : Frm → Store → Prop} :
    aL fs P B N (hold ops bo) (hold (List.drop 0 l) b) xs ts fr ss ps ls K = aL fs P B N (hold ops bo) (hold l .mk) xs ts fr ss ps ls K := id rfl
theorem nc_op {f : Operand} {l : List Operand} {tys : List TypeId} {ρ : Operand → AV} {σ : Store} {K : AV → Store → Prop} {k : Box K} : NCallO P B (.call { callee := .value f, args := List.toArray l, argTypes := List.toArray tys }) ρ σ (hold K k) = (match ρ f with
    | .fn (.func i) first cap => NCallA P B i (first ++ l.map ρ ++ cap) σ (hold K .mk)
    | _ => False) := id rfl
end
attribute [simp] hG_open hG_nil hG_cons hL_dropA hL_dropS hL_drop0 nc_op
end Go.Vl
