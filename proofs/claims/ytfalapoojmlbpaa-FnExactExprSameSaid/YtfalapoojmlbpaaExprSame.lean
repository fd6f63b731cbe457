/-
  PROVED HERE: laws.FnExactExprSame returns true for every two expressions, and both read behind the call as they read before.
  Conditions: none.
-/
import Derived.Test.YtfalapoojmlbpaaRows
import Derived.Test.YtfalapoojmlbpaaVlData
namespace Go.Proofs.Ytfalapoojmlbpaa
open Go Go.Proofs Go.Vl Go.ChangeShapes Go.WideShapes Go.ChangeAt Go.RowKit

@[simp] theorem ti24 : tiOf Try.prog 24 = some ⟨.struct [(0, 1), (1, 1), (2, 1), (3, 1)], 4, [.int .i64 0, .int .i64 0, .int .i64 0, .slice none 0 0]⟩ := by kernel_rfl
@[simp] theorem ti29 : tiOf Try.prog 29 = some ⟨.struct [(0, 1), (1, 1), (2, 1), (3, 1)], 4, [.int .i64 0, .int .i64 0, .int .i64 0, .slice none 0 0]⟩ := by kernel_rfl
@[simp] theorem ti22 : tiOf Try.prog 22 = some ⟨.slice 4 48 [.int .i64 0, .int .i64 0, .int .i64 0, .slice none 0 0], 1, [.slice none 0 0]⟩ := by kernel_rfl
@[simp] theorem ti27 : tiOf Try.prog 27 = some ⟨.slice 4 48 [.int .i64 0, .int .i64 0, .int .i64 0, .slice none 0 0], 1, [.slice none 0 0]⟩ := by kernel_rfl
@[simp] theorem ti3 : tiOf Try.prog 3 = some ⟨.word, 1, [.int .i64 0]⟩ := by kernel_rfl
attribute [simp] Try.results8 Try.results36 Try.underlying22 Try.underlying27 Try.results9 Try.results11 Try.results38 Try.results10 Try.results37 Try.results12 Try.results39 Try.results3
theorem follows : Try.prog.follows .mixedOrders = true := by kernel_rfl

theorem szE_of (B : Nat) (e : Ex) (l r : Int) (h : PureCall Try.prog B 36 [.arr (e.kids.map Ex.cells), .lit (.int .i64 l)] (.lit (.int .i64 r))) :
    PureCall Try.prog B 8 [.agg e.cells, .lit (.int .i64 l)] (.lit (.int .i64 (if r < 0 then -1 else r))) := by
  refine PureCall.enter Try.func8 (by kernel_rfl) rfl Try.ntmps8 (by simp -dsimp) trivial fun _ => ?_
  simp -dsimp
  refine h.go ⟨trivial, trivial, trivial⟩ ?_
  simp -dsimp
  refine abr.split (fun h => ?_) (fun h => ?_) <;> simp -dsimp [h]

theorem szS (B : Nat) (es : List Ex) (hlen : es.length ≤ maxLen) (l : Int) (h0 : 0 ≤ l) (h1 : l ≤ 2 ^ 50)
    (ih : ∀ e, e ∈ es → ∀ l : Int, 0 ≤ l → l ≤ 2 ^ 50 → PureCall Try.prog B 8 [.agg e.cells, .lit (.int .i64 l)] (.lit (.int .i64 (rem l e.wt)))) :
    PureCall Try.prog B 36 [.arr (es.map Ex.cells), .lit (.int .i64 l)] (.lit (.int .i64 (rem l (es.length + Ex.wts es)))) := by
  refine PureCall.enter Try.func36 (by kernel_rfl) rfl Try.ntmps36 (by simp -dsimp) trivial fun hb => ?_
  have hl : (es.length : Int) ≤ 2 ^ 63 - 1 := by have : es.length ≤ 2 ^ 63 - 1 := hlen; omega
  simp -dsimp
  rw [wrap_in (by omega) (by omega)]
  refine abr.split (fun h2 => ?_) (fun h2 => ?_)
  · simp -dsimp [rem_neg (l := l) (n := es.length + Ex.wts es) (by omega)]
  · simp -dsimp
    refine ALoop.go (fun n st => ∃ (k : Nat) (l' : Int), k ≤ es.length ∧ n = es.length - k ∧ 0 ≤ l' ∧ l' ≤ l ∧ rem l' (Ex.wts (es.drop k)) = rem l (es.length + Ex.wts es) ∧
      st = ⟨[(0, .arr (es.map Ex.cells)), (1, .lit (.int .i64 l')), (5, .lit (.int .i64 k))], []⟩) _ _ (gh_sub (s := []) rfl (by simp -dsimp) (by simp -dsimp) (by simp -dsimp)) ⟨0, l - es.length, by omega, rfl, by omega, by omega, ?_, rfl⟩ ?_
    · simp only [List.drop_zero, rem]; split <;> split <;> omega
    · rintro n st ⟨k, l', hk, rfl, hl0, hl1, hs, rfl⟩
      have hk2 : (k : Int) ≤ 2 ^ 50 := by omega
      simp -dsimp
      refine abr.split (fun hlt => ?_) (fun hlt => ?_)
      · simp -dsimp [hlt]
        refine (ih es[k] (by simp -dsimp) l' hl0 (by omega)).go ⟨by simp, trivial, trivial⟩ ?_
        have hd : es.drop k = es[k] :: es.drop (k + 1) := List.drop_eq_getElem_cons hlt
        rw [hd, Ex.wts_cons] at hs
        simp -dsimp
        refine abr.split (fun h3 => ?_) (fun h3 => ?_)
        · simp -dsimp
          rw [← hs]
          simp only [rem] at h3 ⊢
          split at h3 <;> split <;> omega
        · simp -dsimp
          rw [wrap_in (by omega) (by omega)]
          have hp : (es[k].wt : Int) ≤ l' := by simp only [rem] at h3; split at h3 <;> omega
          refine RoundEnd.intro _ _ ?_ (gh_sub (s := []) rfl (by simp -dsimp) (by simp -dsimp) ?_) ⟨k + 1, rem l' es[k].wt, by omega, rfl, by omega, by rw [rem_pos hp]; omega, ?_, rfl⟩
          · omega
          · simp -dsimp
          · rw [← hs, rem_pos hp]; simp only [rem]; split <;> split <;> omega
      · have : k = es.length := by omega
        subst this
        simp -dsimp
        rw [← hs]; simp -dsimp [Ex.wts_nil, rem, hl0]

/-- What 'szExpr' leaves. -/
theorem szE (B : Nat) : ∀ (e : Ex), e.Ok → ∀ l : Int, 0 ≤ l → l ≤ 2 ^ 50 → PureCall Try.prog B 8 [.agg e.cells, .lit (.int .i64 l)] (.lit (.int .i64 (rem l e.wt)))
  | e, hok, l, h0, h1 => by
    have h := szS B e.kids hok.len l h0 h1 fun k hk l' h0' h1' => szE B k (hok.kid hk) l' h0' h1'
    have := szE_of B e l _ h
    rw [← Ex.wt_eq] at this
    have e2 : (if rem l e.wt < 0 then -1 else rem l e.wt) = rem l e.wt := by simp only [rem]; split <;> split <;> omega
    rwa [e2] at this
termination_by e => SizeOf.sizeOf e
decreasing_by exact Ex.lt hk

theorem toE_of (B : Nat) (e : Ex) (h : PureCall Try.prog B 37 [.arr (e.kids.map Ex.cells)] (.arr (e.kids.map Ex.cells))) : PureCall Try.prog B 10 [.agg e.cells] (.agg e.cells) := by
  refine PureCall.enter Try.func10 (by kernel_rfl) rfl Try.ntmps10 (by simp) (Ex.pures e) fun _ => ?_
  simp -dsimp
  refine h.go ⟨trivial, trivial⟩ ?_
  simp -dsimp
  rw [Ex.cells_eq]

theorem toS (B : Nat) (hB : B ≤ 2 ^ 40) (es : List Ex) (ih : ∀ e, e ∈ es → PureCall Try.prog B 10 [.agg e.cells] (.agg e.cells)) :
    PureCall Try.prog B 37 [.arr (es.map Ex.cells)] (.arr (es.map Ex.cells)) := by
  refine PureCall.enter Try.func37 (by kernel_rfl) rfl Try.ntmps37 (by simp) trivial fun hb => ?_
  have hl : es.length * 4 ≤ B := by have := hb.1 4 (by simp); simpa using this
  simp -dsimp
  refine ⟨by omega, by omega, hl, ?_⟩
  refine ALoop.go (fun n st => ∃ k : Nat, k ≤ es.length ∧ n = es.length - k ∧
      st = ⟨[(0, .arr (es.map Ex.cells)), (3, .own 0 es.length), (4, .lit (.int .i64 k))], [.elems 4 (fillL (es.map Ex.cells) k [.lit (.int .i64 0), .lit (.int .i64 0), .lit (.int .i64 0), .lit (.slice none 0 0)])]⟩)
      _ _ (gh_sub (s := [.elems 4 (fillL (es.map Ex.cells) 0 [.lit (.int .i64 0), .lit (.int .i64 0), .lit (.int .i64 0), .lit (.slice none 0 0)])]) (g := []) (by simp [fillL_zero]) (by simp) ?_ (by simp -dsimp)) ⟨0, by omega, rfl, rfl⟩ ?_
  · simp -dsimp [fillL_zero]
  · rintro n st ⟨k, hk, rfl, rfl⟩
    have hL := fillL_len (es.map Ex.cells) k [.lit (.int .i64 0), .lit (.int .i64 0), .lit (.int .i64 0), .lit (.slice none 0 0)] (by simpa using hk)
    rw [List.length_map] at hL
    simp -dsimp
    refine abr.split (fun hlt => ?_) (fun hlt => ?_)
    · simp -dsimp [hlt]
      refine (ih es[k] (by simp)).go ⟨by simp, trivial⟩ ?_
      have hs := fillL_set (es.map Ex.cells) k [.lit (.int .i64 0), .lit (.int .i64 0), .lit (.int .i64 0), .lit (.slice none 0 0)] (by simpa using hlt)
      have hg := fillL_get (es.map Ex.cells) k [.lit (.int .i64 0), .lit (.int .i64 0), .lit (.int .i64 0), .lit (.slice none 0 0)] (by simpa using hlt) (by rw [hL]; exact hlt)
      rw [List.getElem_map] at hs
      simp -dsimp [hL, hlt, hs, hg]
      rw [wrap_in (by omega) (by omega)]
      refine RoundEnd.intro _ _ ?_ (gh_sub (s := [.elems 4 (fillL (es.map Ex.cells) (k + 1) [.lit (.int .i64 0), .lit (.int .i64 0), .lit (.int .i64 0), .lit (.slice none 0 0)])]) (g := []) rfl (by simp) ?_ (by simp -dsimp)) ⟨k + 1, by omega, rfl, rfl⟩
      · omega
      · simp -dsimp
        intro e he
        rcases fillL_mem he with h | rfl
        · obtain ⟨x, _, rfl⟩ := List.mem_map.1 h; simp
        · simp -dsimp
    · have : k = es.length := by omega
      subst this
      have := fillL_all (es.map Ex.cells) [.lit (.int .i64 0), .lit (.int .i64 0), .lit (.int .i64 0), .lit (.slice none 0 0)]
      rw [List.length_map] at this
      simp -dsimp [this]

theorem toE (B : Nat) (hB : B ≤ 2 ^ 40) (e : Ex) : PureCall Try.prog B 10 [.agg e.cells] (.agg e.cells) := by
  have h := toS B hB e.kids fun k hk => toE B hB k
  exact toE_of B e h
termination_by SizeOf.sizeOf e
decreasing_by exact Ex.lt hk

theorem same_len {a b : Ex} (h : ¬ a.kids.length = b.kids.length) : ¬ a = b := fun e => h (by rw [e])
theorem same_of {a b : Ex} (h1 : a.op = b.op) (h2 : a.n = b.n) (h3 : a.ctor = b.ctor) (h4 : a.kids.length = b.kids.length) (h : a.kids.take b.kids.length = b.kids.take b.kids.length) : a = b := by
  rw [Ex.ext_iff]
  refine ⟨h1, h2, h3, ?_⟩
  rw [← h4, List.take_length, h4, List.take_length] at h
  exact h
theorem take_step {α : Type} {xs ys : List α} {k : Nat} (h : xs.take k = ys.take k) (h1 : k < xs.length) (h2 : k < ys.length) (he : xs[k] = ys[k]) : xs.take (k + 1) = ys.take (k + 1) := by
  rw [List.take_add_one, List.take_add_one, List.getElem?_eq_getElem h1, List.getElem?_eq_getElem h2, h, he]
theorem take_ne {α : Type} {xs ys : List α} {k : Nat} (h1 : k < xs.length) (h2 : k < ys.length) (he : ¬ xs[k] = ys[k]) : ¬ xs = ys := by
  intro h; subst h; exact he rfl

theorem spec_of (B : Nat) (hB : B ≤ 2 ^ 40) (a b : Ex) (ih : ∀ x, x ∈ a.kids → ∀ y, PureCall Try.prog B 9 [.agg x.cells, .agg y.cells] (.lit (.bool (dec (x = y))))) :
    PureCall Try.prog B 9 [.agg a.cells, .agg b.cells] (.lit (.bool (dec (a = b)))) := by
  refine PureCall.enter Try.func9 (by kernel_rfl) rfl Try.ntmps9 (by simp) trivial fun hb => ?_
  have hl : a.kids.length * 4 ≤ B := by
    have := hb.1
    rw [Ex.cells_eq] at this
    have := this.2.2.2.1 4 (by simp)
    simpa using this
  simp -dsimp
  refine abr.split (fun h1 => ?_) (fun h1 => ?_)
  · simp -dsimp [h1]
    refine abr.split (fun h2 => ?_) (fun h2 => ?_)
    · simp -dsimp [h2]
      refine abr.split (fun h3 => ?_) (fun h3 => ?_)
      · simp -dsimp [h3]
        refine abr.split (fun h4 => ?_) (fun h4 => ?_)
        · simp -dsimp [dec_not (p := a = b) (fun e => h4 (by rw [e]))]
        · replace h4 : a.kids.length = b.kids.length := by omega
          simp -dsimp
          refine ALoop.go (fun n st => ∃ k : Nat, k ≤ b.kids.length ∧ n = b.kids.length - k ∧ a.kids.take k = b.kids.take k ∧
            st = ⟨[(2, .ptr 0 0), (3, .ptr 1 0), (5, .lit (.int .i64 k))], [.cells a.cells, .cells b.cells]⟩)
            _ _ (gh_sub (s := [.cells a.cells, .cells b.cells]) (g := []) rfl (by simp) (by simp -dsimp) (by simp -dsimp)) ⟨0, by omega, rfl, rfl, rfl⟩ ?_
          rintro n st ⟨k, hk, rfl, hs, rfl⟩
          simp -dsimp [h4]
          refine abr.split (fun hlt => ?_) (fun hlt => ?_)
          · have hlt' : k < a.kids.length := by omega
            simp -dsimp [hlt]
            refine ADraw.simple follows (by kernel_rfl) (by kernel_rfl) ?_
            simp -dsimp [hlt, hlt']
            refine (ih a.kids[k] (by simp) b.kids[k]).pgo ⟨by simp, by simp, trivial⟩ ?_
            simp -dsimp
            refine abr.split (fun h5 => ?_) (fun h5 => ?_)
            · have h6 : ¬ a.kids[k] = b.kids[k] := fun e => by rw [dec_of e] at h5; cases h5
              simp -dsimp [dec_not (p := a = b) (fun e => take_ne hlt' hlt h6 (by rw [e]))]
            · have h6 : a.kids[k] = b.kids[k] := dec_iff.1 (by simpa using h5)
              simp -dsimp
              rw [wrap_in (by omega) (by omega)]
              refine RoundEnd.intro _ _ ?_ (gh_sub (s := [.cells a.cells, .cells b.cells]) (g := []) rfl (by simp) (by simp -dsimp) (by simp -dsimp)) ⟨k + 1, by omega, rfl, take_step hs hlt' hlt h6, rfl⟩
              omega
          · simp -dsimp [dec_of (same_of h1 h2 h3 h4 (by have : k = b.kids.length := by omega
                                                         rw [this] at hs; exact hs))]
      · simp -dsimp [h3, dec_not (p := a = b) (fun e => h3 (by rw [e]))]
    · simp -dsimp [h2, dec_not (p := a = b) (fun e => h2 (by rw [e]))]
  · simp -dsimp [h1, dec_not (p := a = b) (fun e => h1 (by rw [e]))]

theorem specE (B : Nat) (hB : B ≤ 2 ^ 40) (a b : Ex) : PureCall Try.prog B 9 [.agg a.cells, .agg b.cells] (.lit (.bool (dec (a = b)))) :=
  spec_of B hB a b fun x hx y => specE B hB x y
termination_by SizeOf.sizeOf a
decreasing_by exact Ex.lt hx

theorem eqS (B : Nat) (hB : B ≤ 2 ^ 40) (a b : List Ex) (ih : ∀ x, x ∈ a → ∀ y, PureCall Try.prog B 12 [.agg x.cells, .agg y.cells] (.lit (.bool (dec (x = y))))) :
    PureCall Try.prog B 39 [.arr (a.map Ex.cells), .arr (b.map Ex.cells)] (.lit (.bool (dec (a = b)))) := by
  refine PureCall.enter Try.func39 (by kernel_rfl) rfl Try.ntmps39 (by simp) trivial fun hb => ?_
  have hl : a.length * 4 ≤ B := by have := hb.1 4 (by simp); simpa using this
  simp -dsimp
  refine abr.split (fun h4 => ?_) (fun h4 => ?_)
  · simp -dsimp [dec_not (p := a = b) (fun e => h4 (by rw [e]))]
  · replace h4 : a.length = b.length := by omega
    simp -dsimp
    refine ALoop.go (fun n st => ∃ k : Nat, k ≤ b.length ∧ n = b.length - k ∧ a.take k = b.take k ∧
      st = ⟨[(0, .arr (a.map Ex.cells)), (1, .arr (b.map Ex.cells)), (5, .lit (.int .i64 k))], []⟩)
      _ _ (gh_sub (s := []) (g := []) rfl (by simp) (by simp -dsimp) (by simp -dsimp)) ⟨0, by omega, rfl, rfl, rfl⟩ ?_
    rintro n st ⟨k, hk, rfl, hs, rfl⟩
    simp -dsimp [h4]
    refine abr.split (fun hlt => ?_) (fun hlt => ?_)
    · have hlt' : k < a.length := by omega
      simp -dsimp [hlt]
      refine ADraw.simple follows (by kernel_rfl) (by kernel_rfl) ?_
      simp -dsimp [hlt, hlt']
      refine (ih a[k] (by simp) b[k]).pgo ⟨by simp, by simp, trivial⟩ ?_
      simp -dsimp
      refine abr.split (fun h5 => ?_) (fun h5 => ?_)
      · have h6 : ¬ a[k] = b[k] := fun e => by rw [dec_of e] at h5; cases h5
        simp -dsimp [dec_not (p := a = b) (fun e => take_ne hlt' hlt h6 e)]
      · have h6 : a[k] = b[k] := dec_iff.1 (by simpa using h5)
        simp -dsimp
        rw [wrap_in (by omega) (by omega)]
        refine RoundEnd.intro _ _ ?_ (gh_sub (s := []) (g := []) rfl (by simp) (by simp -dsimp) (by simp -dsimp)) ⟨k + 1, by omega, rfl, take_step hs hlt' hlt h6, rfl⟩
        omega
    · have hke : k = b.length := by omega
      subst hke
      have he : a = b := by rw [← h4, List.take_length, h4, List.take_length] at hs; exact hs
      simp -dsimp [dec_of he]

theorem eqE_of (B : Nat) (a b : Ex) (h : PureCall Try.prog B 39 [.arr (a.kids.map Ex.cells), .arr (b.kids.map Ex.cells)] (.lit (.bool (dec (a.kids = b.kids))))) :
    PureCall Try.prog B 12 [.agg a.cells, .agg b.cells] (.lit (.bool (dec (a = b)))) := by
  refine PureCall.enter Try.func12 (by kernel_rfl) rfl Try.ntmps12 (by simp) trivial fun hb => ?_
  simp -dsimp
  refine abr.split (fun h1 => ?_) (fun h1 => ?_)
  · simp -dsimp [dec_not (p := a = b) (fun e => h1 (by rw [e]))]
  · replace h1 : a.op = b.op := by simpa using h1
    simp -dsimp
    refine abr.split (fun h2 => ?_) (fun h2 => ?_)
    · simp -dsimp [dec_not (p := a = b) (fun e => h2 (by rw [e]))]
    · replace h2 : a.n = b.n := by simpa using h2
      simp -dsimp
      refine abr.split (fun h3 => ?_) (fun h3 => ?_)
      · simp -dsimp [dec_not (p := a = b) (fun e => h3 (by rw [e]))]
      · replace h3 : a.ctor = b.ctor := by simpa using h3
        simp -dsimp
        refine h.go ⟨trivial, trivial, trivial⟩ ?_
        simp -dsimp
        refine abr.split (fun h5 => ?_) (fun h5 => ?_)
        · have h6 : ¬ a.kids = b.kids := fun e => by rw [dec_of e] at h5; cases h5
          simp -dsimp [dec_not (p := a = b) (fun e => h6 (by rw [e]))]
        · have h6 : a.kids = b.kids := dec_iff.1 (by simpa using h5)
          simp -dsimp [dec_of (Ex.ext_iff.2 ⟨h1, h2, h3, h6⟩)]

theorem eqE (B : Nat) (hB : B ≤ 2 ^ 40) (a b : Ex) : PureCall Try.prog B 12 [.agg a.cells, .agg b.cells] (.lit (.bool (dec (a = b)))) :=
  eqE_of B a b (eqS B hB a.kids b.kids fun x hx y => eqE B hB x y)
termination_by SizeOf.sizeOf a
decreasing_by exact Ex.lt hx

theorem equalFunc (B : Nat) (hB : B ≤ 2 ^ 40) (a b : List Ex) (ih : ∀ x, x ∈ a → ∀ y, PureCall Try.prog B 11 [.agg x.cells, .agg y.cells] (.lit (.bool (dec (x = y))))) :
    PureCall Try.prog B 38 [.arr (a.map Ex.cells), .arr (b.map Ex.cells), .fn (.func 11) [] []] (.lit (.bool (dec (a = b)))) := by
  refine PureCall.enter Try.func38 (by kernel_rfl) rfl Try.ntmps38 (by simp) trivial fun hb => ?_
  have hl : a.length * 4 ≤ B := by have := hb.1 4 (by simp); simpa using this
  simp -dsimp
  refine abr.split (fun h4 => ?_) (fun h4 => ?_)
  · simp -dsimp [dec_not (p := a = b) (fun e => h4 (by rw [e]))]
  · replace h4 : a.length = b.length := by omega
    simp -dsimp
    refine ALoop.go (fun n st => ∃ k : Nat, k ≤ b.length ∧ n = b.length - k ∧ a.take k = b.take k ∧
      st = ⟨[(0, .arr (a.map Ex.cells)), (1, .arr (b.map Ex.cells)), (2, .fn (.func 11) [] []), (15, .arr (a.map Ex.cells)), (16, .lit (.int .i64 a.length)), (17, .lit (.int .i64 k))], []⟩)
      _ _ (gh_sub (s := []) (g := []) rfl (by simp) (by simp -dsimp) (by simp -dsimp)) ⟨0, by omega, rfl, rfl, rfl⟩ ?_
    rintro n st ⟨k, hk, rfl, hs, rfl⟩
    simp -dsimp [h4]
    refine abr.split (fun hlt => ?_) (fun hlt => ?_)
    · have hlt' : k < a.length := by omega
      simp -dsimp [hlt, hlt']
      refine (ih a[k] (by simp) b[k]).go ⟨by simp, by simp, trivial⟩ ?_
      simp -dsimp
      refine abr.split (fun h5 => ?_) (fun h5 => ?_)
      · have h6 : ¬ a[k] = b[k] := fun e => by rw [dec_of e] at h5; cases h5
        simp -dsimp [dec_not (p := a = b) (fun e => take_ne hlt' hlt h6 e)]
      · have h6 : a[k] = b[k] := dec_iff.1 (by simpa using h5)
        simp -dsimp
        rw [wrap_in (by omega) (by omega)]
        refine RoundEnd.intro _ _ ?_ (gh_sub (s := []) rfl (by simp) (by simp -dsimp) (by simp -dsimp [h4])) ⟨k + 1, by omega, rfl, take_step hs hlt' hlt h6, rfl⟩
        omega
    · have hke : k = b.length := by omega
      subst hke
      have he : a = b := by rw [← h4, List.take_length, h4, List.take_length] at hs; exact hs
      simp -dsimp [dec_of he]

theorem impl_of (B : Nat) (a b : Ex) (h : PureCall Try.prog B 38 [.arr (a.kids.map Ex.cells), .arr (b.kids.map Ex.cells), .fn (.func 11) [] []] (.lit (.bool (dec (a.kids = b.kids))))) :
    PureCall Try.prog B 11 [.agg a.cells, .agg b.cells] (.lit (.bool (dec (a = b)))) := by
  refine PureCall.enter Try.func11 (by kernel_rfl) rfl Try.ntmps11 (by simp) trivial fun hb => ?_
  simp -dsimp
  refine abr.split (fun h1 => ?_) (fun h1 => ?_)
  · simp -dsimp [h1]
    refine abr.split (fun h2 => ?_) (fun h2 => ?_)
    · simp -dsimp [h2]
      refine abr.split (fun h3 => ?_) (fun h3 => ?_)
      · simp -dsimp [h3]
        refine h.go ⟨trivial, trivial, ⟨trivial, trivial⟩, trivial⟩ ?_
        have : dec (a = b) = dec (a.kids = b.kids) := by
          by_cases h4 : a.kids = b.kids
          · rw [dec_of h4, dec_of (Ex.ext_iff.2 ⟨h1, h2, h3, h4⟩)]
          · rw [dec_not h4, dec_not (fun e => h4 (by rw [e]))]
        simp -dsimp [this, h1, h2, h3]
      · simp -dsimp [h3, dec_not (p := a = b) (fun e => h3 (by rw [e]))]
    · simp -dsimp [h2, dec_not (p := a = b) (fun e => h2 (by rw [e]))]
  · simp -dsimp [h1, dec_not (p := a = b) (fun e => h1 (by rw [e]))]

theorem implE (B : Nat) (hB : B ≤ 2 ^ 40) (a b : Ex) : PureCall Try.prog B 11 [.agg a.cells, .agg b.cells] (.lit (.bool (dec (a = b)))) :=
  impl_of B a b (equalFunc B hB a.kids b.kids fun x hx y => implE B hB x y)
termination_by SizeOf.sizeOf a
decreasing_by exact Ex.lt hx


theorem law_big (a b : Ex) (ha : a.Ok) (hb : b.Ok) (h : ¬ ((a.wt : Int) ≤ 1048576 ∧ (b.wt : Int) ≤ 1048576 - a.wt)) : PureCall Try.prog BIG 3 [.agg a.cells, .agg b.cells] (.lit (.bool true)) := by
  refine PureCall.enter Try.func3 (by kernel_rfl) rfl Try.ntmps3 (by simp) trivial fun _ => ?_
  simp -dsimp
  refine (szE BIG a ha (1048576) (by omega) (by omega)).go ⟨by simp, trivial, trivial⟩ ?_
  simp -dsimp
  refine abr.split (fun h1 => ?_) (fun h1 => ?_)
  · simp -dsimp
  · simp -dsimp
    have hp : (a.wt : Int) ≤ 1048576 := by simp only [rem] at h1; split at h1 <;> omega
    refine (szE BIG b hb _ (by omega) (by rw [rem_pos hp]; omega)).go ⟨by simp, trivial, trivial⟩ ?_
    simp -dsimp
    refine abr.split (fun h2 => ?_) (fun h2 => ?_)
    · simp -dsimp
    · exfalso
      rw [rem_pos hp] at h2
      simp only [rem] at h2; split at h2 <;> omega

theorem law_small (a b : Ex) (ha : a.Ok) (hb : b.Ok) (h : (a.wt : Int) ≤ 1048576 ∧ (b.wt : Int) ≤ 1048576 - a.wt) : PureCall Try.prog (2 ^ 30) 3 [.agg a.cells, .agg b.cells] (.lit (.bool true)) := by
  refine PureCall.enter Try.func3 (by kernel_rfl) rfl Try.ntmps3 (by simp) trivial fun _ => ?_
  simp -dsimp
  refine (szE _ a ha (1048576) (by omega) (by omega)).go ⟨by simp, trivial, trivial⟩ ?_
  have e1 : ¬ rem (1048576) a.wt < 0 := by rw [rem_pos h.1]; omega
  simp -dsimp [e1]
  refine (szE _ b hb _ (by omega) (by rw [rem_pos h.1]; omega)).go ⟨by simp, trivial, trivial⟩ ?_
  have e2 : ¬ rem (rem (1048576) a.wt) b.wt < 0 := by rw [rem_pos h.1, rem_pos h.2]; omega
  simp -dsimp [e2]
  refine ADraw.simple follows (by kernel_rfl) (by kernel_rfl) ?_
  simp -dsimp
  refine (toE _ (by omega) a).pgo ⟨by simp, trivial⟩ ?_
  simp -dsimp
  refine (toE _ (by omega) b).pgo ⟨by simp, trivial⟩ ?_
  simp -dsimp
  refine (specE _ (by omega) a b).pgo ⟨by simp, by simp, trivial⟩ ?_
  simp -dsimp
  refine (toE _ (by omega) a).go ⟨by simp, trivial⟩ ?_
  simp -dsimp
  refine (toE _ (by omega) b).go ⟨by simp, trivial⟩ ?_
  simp -dsimp
  refine (implE _ (by omega) a b).go ⟨by simp, by simp, trivial⟩ ?_
  simp -dsimp
  refine ADraw.simple follows (by kernel_rfl) (by kernel_rfl) ?_
  simp -dsimp
  refine (toE _ (by omega) a).pgo ⟨by simp, trivial⟩ ?_
  simp -dsimp
  refine (eqE _ (by omega) a a).pgo ⟨by simp, by simp, trivial⟩ ?_
  simp -dsimp
  refine ADraw.simple follows (by kernel_rfl) (by kernel_rfl) ?_
  simp -dsimp
  refine (toE _ (by omega) b).pgo ⟨by simp, trivial⟩ ?_
  simp -dsimp
  refine (eqE _ (by omega) b b).pgo ⟨by simp, by simp, trivial⟩ ?_
  simp -dsimp

theorem law (a b : Ex) (ha : a.Ok) (hb : b.Ok) : PureCall Try.prog BIG 3 [.agg a.cells, .agg b.cells] (.lit (.bool true)) := by
  by_cases h : (a.wt : Int) ≤ 1048576 ∧ (b.wt : Int) ≤ 1048576 - a.wt
  · refine PureCall.rebound (B' := 2 ^ 30) (by unfold BIG; omega) ?_ (law_small a b ha hb h)
    intro x hx
    simp only [List.mem_cons, List.not_mem_nil, or_false] at hx
    rcases hx with rfl | rfl
    · exact .agg _ (Ex.fits a (by omega))
    · exact .agg _ (Ex.fits b (by omega))
  · exact law_big a b ha hb h

theorem Try.own : ownKnob Try.prog.godebug = none := by kernel_rfl
theorem Try.laidOut : laidOutB Try.prog = true := by kernel_rfl
theorem Try.tys : tyB Try.prog [24, 22, 3] = true := by kernel_rfl

theorem exOf (n : Nat) (cs : List AV) (h : Typed Try.prog n 24 cs) : ∃ e : Ex, cs = e.cells ∧ e.Ok :=
  Ex.of_typed Try.underlying24 (by kernel_rfl) (by kernel_rfl) (by kernel_rfl) (by kernel_rfl) (by kernel_rfl) (by kernel_rfl) (by kernel_rfl) (by kernel_rfl) (by kernel_rfl) rfl rfl rfl rfl n cs h

set_option maxRecDepth 100000 in
theorem law_args (xs : List AV) (h : TypedArgs Try.prog Try.f3.params.toList xs) : PureCall Try.prog BIG 3 xs (.lit (.bool true)) := by
  rw [Try.params3] at h
  simp only [TypedArgs] at h
  obtain ⟨x, r, rfl, hx, y, r', rfl, hy, rfl⟩ := h
  simp only [TypedArg, Try.underlying24] at hx hy
  obtain ⟨n, cs, rfl, ha⟩ := hx
  obtain ⟨m, bs, rfl, hb⟩ := hy
  obtain ⟨a, rfl, hao⟩ := exOf n cs ha
  obtain ⟨b, rfl, hbo⟩ := exOf m bs hb
  exact law a b hao hbo

set_option maxRecDepth 100000 in
theorem lifted (os : Os) (started : os.Started) (H : Type) (enc : TypeId × Value → H) :
    ReturnsInHanded {} Try.checked os 3 .any (Rows.fnExactExprSameSpec.pre6 enc Try.prog Try.f3 Rows.fnExactExprSameRow.domain false) (Rows.fnExactExprSameSpec.post enc Try.prog Try.f3 false true false false) := by
  refine returnsInHanded_of_change (C := Try.checked) Try.own started (by kernel_rfl) Try.func3
    (ChangeSpec.witness6 (enc := enc) (C := Try.checked) false ⟨#[], #[.agg #[.int .i64 0, .int .i64 0, .int .i64 0, .slice none 0 0], .agg #[.int .i64 0, .int .i64 0, .int .i64 0, .slice none 0 0]], []⟩ 8 (by kernel_rfl) (by kernel_rfl) (by kernel_rfl) (by kernel_rfl)) ?_
  intro W base args ds gs before hval hW _ _
  refine law_any (tb := 4) Try.laidOut Try.tys (of_decide_eq_true (by kernel_rfl)) (by kernel_rfl) (by kernel_rfl) rfl ?_ law_args hval hW
  intro ds hds
  rw [Try.params3] at hds
  match ds, hds with
  | [d1, d2], _ => rfl

theorem FnExactExprSame_holds : Rows.FnExactExprSameSaid :=
  OpenClaim.holds_of_wide 3 Try.f3 rfl rfl rfl rfl rfl rfl rfl ⟨rfl, rfl, rfl, rfl, rfl⟩ rfl rfl rfl rfl rfl (by kernel_rfl) Try.func3 (by kernel_rfl)
    (of_decide_eq_true (by kernel_rfl)) (by unfold Func.isWrapper; rw [if_neg (of_decide_eq_false (by kernel_rfl))]; exact ⟨rfl, rfl⟩)
    (fun os started H enc _ => lifted os started H enc)
end Go.Proofs.Ytfalapoojmlbpaa
