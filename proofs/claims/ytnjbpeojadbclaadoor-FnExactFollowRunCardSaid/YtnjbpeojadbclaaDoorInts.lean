/- Ascending lists of ints, slices of ints, insertion: plain lemmas. -/
import Derived.Test.YtnjbpeojadbclaaDoorOwn
namespace Go.Proofs.YtnjbpeojadbclaaDoor
open Go.RowKit

def ints (xs : List Int) : List Value := xs.map (Value.int .i64)
theorem ints_len (xs : List Int) : (ints xs).length = xs.length := List.length_map _
theorem ints_at (xs : List Int) (k : Nat) (h : k < xs.length) : (ints xs)[k]? = some (.int .i64 xs[k]) := by simp [ints, h]
theorem ints_one (xs : List Int) : ∀ u ∈ ints xs, u.oneCell' = true := by
  intro u hu
  obtain ⟨x, _, rfl⟩ := List.mem_map.1 hu
  rfl
theorem ints_take (xs : List Int) (k : Nat) : (ints xs).take k = ints (xs.take k) := by simp [ints, List.map_take]
theorem ints_drop (xs : List Int) (k : Nat) : (ints xs).drop k = ints (xs.drop k) := by simp [ints, List.map_drop]
theorem ints_app (xs ys : List Int) : ints (xs ++ ys) = ints xs ++ ints ys := by simp [ints]
/-- A cell of a slice of ints. -/
theorem intAt {w : World} {g o : Nat} {xs : List Int} {k : Nat} (hcell : ∀ j u, (ints xs)[j]? = some u → w.cell? ⟨g, o + j, none⟩ = some u) (hk : k < xs.length) :
    w.cell? ⟨g, o + k, none⟩ = some (.int .i64 xs[k]) := hcell _ _ (ints_at xs k hk)

/-- Strictly ascending, above lo, at most hi. -/
def asc (lo hi : Int) : List Int → Bool
  | [] => true
  | x :: r => decide (lo < x) && decide (x ≤ hi) && asc x hi r

/-- The last of a list, lo if there is none. -/
def lastOf (lo : Int) : List Int → Int
  | [] => lo
  | x :: r => lastOf x r
theorem lastOf_snoc (lo : Int) (l : List Int) (x : Int) : lastOf lo (l ++ [x]) = x := by
  induction l generalizing lo with
  | nil => rfl
  | cons y l ih => exact ih y
theorem asc_app (lo hi : Int) (l r : List Int) : asc lo hi (l ++ r) = (asc lo hi l && asc (lastOf lo l) hi r) := by
  induction l generalizing lo with
  | nil => rfl
  | cons x l ih => rw [List.cons_append, asc, ih, asc, lastOf]; simp only [Bool.and_assoc]
theorem last_take (lo : Int) (xs : List Int) (k : Nat) (h : k < xs.length) : lastOf lo (xs.take (k + 1)) = xs[k] := by
  rw [List.take_succ_eq_append_getElem h, lastOf_snoc]
theorem asc_next {lo hi : Int} {xs : List Int} {k : Nat} (h : k < xs.length) (h1 : asc lo hi (xs.take k) = true) (h2 : lastOf lo (xs.take k) < xs[k]) (h3 : xs[k] ≤ hi) : asc lo hi (xs.take (k + 1)) = true := by
  rw [List.take_succ_eq_append_getElem h, asc_app, h1, asc, asc, decide_eq_true h2, decide_eq_true h3]
  rfl
theorem asc_not {lo hi : Int} {xs : List Int} {k : Nat} (h : k < xs.length) (h2 : xs[k] ≤ lastOf lo (xs.take k) ∨ hi < xs[k]) : asc lo hi xs = false := by
  have e : xs = xs.take k ++ (xs[k] :: xs.drop (k + 1)) := by
    rw [← List.drop_eq_getElem_cons h, List.take_append_drop]
  rw [e, asc_app, asc]
  rcases h2 with h2 | h2
  · rw [decide_eq_false (by omega : ¬ lastOf lo (xs.take k) < xs[k])]
    simp
  · rw [decide_eq_false (by omega : ¬ xs[k] ≤ hi)]
    simp
theorem asc_all {lo hi : Int} {xs : List Int} (h : asc lo hi (xs.take xs.length) = true) : asc lo hi xs = true := by rwa [List.take_length] at h
theorem asc_last {lo hi : Int} {l : List Int} (h : asc lo hi l = true) : lo ≤ lastOf lo l := by
  induction l generalizing lo with
  | nil => exact Int.le_refl _
  | cons x l ih =>
    simp only [asc, Bool.and_eq_true, decide_eq_true_eq] at h
    have := ih h.2
    rw [lastOf]
    omega
theorem asc_head {lo hi x : Int} {l : List Int} (h : asc lo hi (x :: l) = true) : lo < x ∧ x ≤ hi ∧ asc x hi l = true := by
  simp only [asc, Bool.and_eq_true, decide_eq_true_eq] at h
  exact ⟨h.1.1, h.1.2, h.2⟩
theorem asc_mem {lo hi : Int} {l : List Int} (h : asc lo hi l = true) : ∀ x ∈ l, lo < x ∧ x ≤ hi := by
  induction l generalizing lo with
  | nil => simp
  | cons y l ih =>
    obtain ⟨h1, h2, h3⟩ := asc_head h
    intro x hx
    rcases List.mem_cons.1 hx with rfl | hx
    · exact ⟨h1, h2⟩
    · have := ih h3 x hx
      omega
theorem asc_low {lo lo' hi : Int} {l : List Int} (h : asc lo hi l = true) (hl : lo' ≤ lo) : asc lo' hi l = true := by
  cases l with
  | nil => rfl
  | cons x l =>
    obtain ⟨h1, h2, h3⟩ := asc_head h
    simp only [asc, Bool.and_eq_true, decide_eq_true_eq]
    exact ⟨⟨by omega, h2⟩, h3⟩
/-- The last of an ascending list so far, by index. -/
theorem last_prev (lo : Int) (xs : List Int) (k : Nat) (hk : 1 ≤ k) (h : k ≤ xs.length) : lastOf lo (xs.take k) = xs[k - 1]'(by omega) := by
  obtain ⟨j, rfl⟩ : ∃ j, k = j + 1 := ⟨k - 1, by omega⟩
  exact last_take lo xs j (by omega)
end Go.Proofs.YtnjbpeojadbclaaDoor
