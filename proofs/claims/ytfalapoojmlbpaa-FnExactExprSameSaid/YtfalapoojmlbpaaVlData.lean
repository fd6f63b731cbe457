/- The value-level layer, part 24: the program's data as Lean data: expressions. -/
import Derived.Test.YtfalapoojmlbpaaVlFits
namespace Go.Vl
open Go Go.RowKit

/-- Truth as a Bool. -/
noncomputable def dec (p : Prop) : Bool := @decide p (Classical.propDecidable p)
theorem dec_iff {p : Prop} : dec p = true ↔ p := by simp [dec]
theorem dec_of {p : Prop} (h : p) : dec p = true := dec_iff.2 h
theorem dec_not {p : Prop} (h : ¬ p) : dec p = false := by
  cases hd : dec p with
  | false => rfl
  | true => exact absurd (dec_iff.1 hd) h

@[simp] theorem dec_True : dec True = true := dec_of trivial
@[simp] theorem dec_False : dec False = false := dec_not id

inductive Ex where
  | mk (op n ctor : Int) (kids : List Ex)

def Ex.op : Ex → Int | .mk a _ _ _ => a
def Ex.n : Ex → Int | .mk _ a _ _ => a
def Ex.ctor : Ex → Int | .mk _ _ a _ => a
def Ex.kids : Ex → List Ex | .mk _ _ _ a => a

mutual
def Ex.cells : Ex → List AV
  | .mk a b c ks => [.lit (.int .i64 a), .lit (.int .i64 b), .lit (.int .i64 c), .arr (Ex.cellss ks)]
def Ex.cellss : List Ex → List (List AV)
  | [] => []
  | k :: r => k.cells :: Ex.cellss r
end
theorem Ex.cellss_eq : ∀ l : List Ex, Ex.cellss l = l.map Ex.cells
  | [] => by rw [Ex.cellss]; rfl
  | k :: r => by rw [Ex.cellss, Ex.cellss_eq r]; rfl

mutual
/-- How many kids there are, at every depth. -/
def Ex.wt : Ex → Nat
  | .mk _ _ _ ks => ks.length + Ex.wts ks
def Ex.wts : List Ex → Nat
  | [] => 0
  | k :: r => k.wt + Ex.wts r
end

theorem Ex.wt_eq (e : Ex) : e.wt = e.kids.length + Ex.wts e.kids := by cases e; rw [Ex.wt]; rfl
theorem Ex.wts_nil : Ex.wts [] = 0 := by rw [Ex.wts]
theorem Ex.wts_cons (k : Ex) (r : List Ex) : Ex.wts (k :: r) = k.wt + Ex.wts r := by rw [Ex.wts]
theorem Ex.wt_le {l : List Ex} {k : Ex} (h : k ∈ l) : k.wt ≤ Ex.wts l := by
  induction l with
  | nil => cases h
  | cons a r ih =>
    rw [Ex.wts_cons]
    rcases List.mem_cons.1 h with rfl | h
    · omega
    · have := ih h; omega

theorem Ex.lt {e k : Ex} (h : k ∈ e.kids) : SizeOf.sizeOf k < SizeOf.sizeOf e := by
  cases e with
  | mk a b c ks =>
    have := List.sizeOf_lt_of_mem (show k ∈ ks from h)
    simp; omega

theorem Ex.ext_iff {a b : Ex} : a = b ↔ a.op = b.op ∧ a.n = b.n ∧ a.ctor = b.ctor ∧ a.kids = b.kids := by
  cases a; cases b; simp [Ex.op, Ex.n, Ex.ctor, Ex.kids]

theorem Ex.cells_eq (e : Ex) : e.cells = [.lit (.int .i64 e.op), .lit (.int .i64 e.n), .lit (.int .i64 e.ctor), .arr (e.kids.map Ex.cells)] := by
  cases e; rw [Ex.cells, Ex.cellss_eq]; rfl
@[simp] theorem Ex.cells_len (e : Ex) : e.cells.length = 4 := by rw [Ex.cells_eq]; rfl
@[simp] theorem Ex.c0 (e : Ex) : e.cells[0]? = some (.lit (.int .i64 e.op)) := by rw [Ex.cells_eq]; rfl
@[simp] theorem Ex.c1 (e : Ex) : e.cells[1]? = some (.lit (.int .i64 e.n)) := by rw [Ex.cells_eq]; rfl
@[simp] theorem Ex.c2 (e : Ex) : e.cells[2]? = some (.lit (.int .i64 e.ctor)) := by rw [Ex.cells_eq]; rfl
@[simp] theorem Ex.c3 (e : Ex) : e.cells[3]? = some (.arr (e.kids.map Ex.cells)) := by rw [Ex.cells_eq]; rfl
@[simp] theorem Ex.g0 (e : Ex) (h) : e.cells[0]'h = .lit (.int .i64 e.op) := by simp [Ex.cells_eq]
@[simp] theorem Ex.g1 (e : Ex) (h) : e.cells[1]'h = .lit (.int .i64 e.n) := by simp [Ex.cells_eq]
@[simp] theorem Ex.g2 (e : Ex) (h) : e.cells[2]'h = .lit (.int .i64 e.ctor) := by simp [Ex.cells_eq]
@[simp] theorem Ex.g3 (e : Ex) (h) : e.cells[3]'h = .arr (e.kids.map Ex.cells) := by simp [Ex.cells_eq]
@[simp] theorem Ex.pures (e : Ex) : AV.pure.pures e.cells := by rw [Ex.cells_eq]; simp [AV.pure.pures, AV.pure]
@[simp] theorem Ex.closeds (n : Nat) (e : Ex) : AV.closed.closeds n e.cells := by rw [Ex.cells_eq]; simp [AV.closed.closeds, AV.closed]
@[simp] theorem Ex.ok1s (e : Ex) (σ : Store) : allOk1 σ e.cells := by rw [Ex.cells_eq]; simp [allOk1, ok1, oneV]

/-- No list of kids is longer than a slice can be. -/
inductive Ex.Ok : Ex → Prop
  | mk (a b c : Int) (ks : List Ex) (h : ks.length ≤ maxLen) (hk : ∀ k, k ∈ ks → Ex.Ok k) : Ex.Ok (.mk a b c ks)
theorem Ex.Ok.len {e : Ex} (h : e.Ok) : e.kids.length ≤ maxLen := by cases h; assumption
theorem Ex.Ok.kid {e k : Ex} (h : e.Ok) (hk : k ∈ e.kids) : k.Ok := by cases h with | mk a b c ks h1 h2 => exact h2 k hk

theorem Ex.fits {B : Nat} : ∀ (e : Ex), e.wt * 4 ≤ B → ∀ x, x ∈ e.cells → Fits (small B) x
  | .mk a b c ks, h, x, hx => by
    rw [Ex.cells_eq] at hx
    simp only [Ex.op, Ex.n, Ex.ctor, Ex.kids, List.mem_cons, List.not_mem_nil, or_false] at hx
    rw [Ex.wt] at h
    rcases hx with rfl | rfl | rfl | rfl
    · exact .lit _
    · exact .lit _
    · exact .lit _
    · refine .arr _ (fun e he => ?_) (fun e he y hy => ?_)
      · obtain ⟨k, hk, rfl⟩ := List.mem_map.1 he
        simp; omega
      · obtain ⟨k, hk, rfl⟩ := List.mem_map.1 he
        have := Ex.wt_le hk
        exact Ex.fits k (by omega) y hy
termination_by e => SizeOf.sizeOf e
decreasing_by (have := List.sizeOf_lt_of_mem hk; simp; omega)

/-- From cells to an expression. -/
theorem Ex.of_typed {P : Program} {t : TypeId} {f0 f1 f2 f3 : Field} (ht : P.underlying t = some (.struct #[f0, f1, f2, f3])) (h0 : P.underlying f0.type = some (.int .i64)) (h1 : P.underlying f1.type = some (.int .i64))
    (h2 : P.underlying f2.type = some (.int .i64)) (h3 : P.underlying f3.type = some (.slice t)) (hc : P.cellsOf t = 4) (hc0 : P.cellsOf f0.type = 1) (hc1 : P.cellsOf f1.type = 1) (hc2 : P.cellsOf f2.type = 1) (hc3 : P.cellsOf f3.type = 1)
    (o0 : f0.offset = 0) (o1 : f1.offset = 1) (o2 : f2.offset = 2) (o3 : f3.offset = 3) : ∀ (n : Nat) (as : List AV), Typed P n t as → ∃ e : Ex, as = e.cells ∧ e.Ok
  | 0, as, h => h.elim
  | n + 1, as, h => by
    simp only [Typed, ht] at h
    obtain ⟨hl, hf⟩ := h
    have k0 := hf f0 (by simp); have k1 := hf f1 (by simp); have k2 := hf f2 (by simp); have k3 := hf f3 (by simp)
    rw [o0, hc0] at k0; rw [o1, hc1] at k1; rw [o2, hc2] at k2; rw [o3, hc3] at k3
    rw [hc] at hl
    match as, hl with
    | [x0, x1, x2, x3], _ =>
      cases n with
      | zero => exact k0.elim
      | succ n =>
        simp only [Typed, h0, h1, h2, h3, List.drop_zero, List.drop_succ_cons, List.take_succ_cons, List.take_zero] at k0 k1 k2 k3
        obtain ⟨a, e0, _⟩ := k0; obtain ⟨b, e1, _⟩ := k1; obtain ⟨c, e2, _⟩ := k2; obtain ⟨es, e3, hle, hes⟩ := k3
        simp at e0 e1 e2 e3
        subst e0; subst e1; subst e2; subst e3
        have key : ∃ ks : List Ex, es = ks.map Ex.cells ∧ ∀ k, k ∈ ks → k.Ok := by
          have : ∀ l : List (List AV), (∀ x, x ∈ l → Typed P n t x) → ∃ ks : List Ex, l = ks.map Ex.cells ∧ ∀ k, k ∈ ks → k.Ok := by
            intro l
            induction l with
            | nil => intro _; exact ⟨[], rfl, by simp⟩
            | cons x r ih =>
              intro hl
              obtain ⟨k, hk, hok⟩ := Ex.of_typed ht h0 h1 h2 h3 hc hc0 hc1 hc2 hc3 o0 o1 o2 o3 n x (hl x (by simp))
              obtain ⟨ks, hks, hoks⟩ := ih fun y hy => hl y (List.mem_cons_of_mem _ hy)
              exact ⟨k :: ks, by simp [hk, hks], fun j hj => by rcases List.mem_cons.1 hj with rfl | hj; exact hok; exact hoks j hj⟩
          exact this es fun x hx => (hes x hx).2
        obtain ⟨ks, rfl, hoks⟩ := key
        exact ⟨.mk a b c ks, by rw [Ex.cells_eq]; rfl, .mk a b c ks (by simpa using hle) hoks⟩

end Go.Vl
