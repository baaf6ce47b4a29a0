/- Heaps in a list: plain lemmas. -/
import Derived.Test.YtfcammfdengdbaaInts
namespace Go.Proofs.Ytfcammfdengdbaa
open Go.RowKit

/-- Two places exchanged. -/
def swp (xs : List Int) (i j : Nat) : List Int := (xs.set i (xs.getD j 0)).set j (xs.getD i 0)
theorem swp_len (xs : List Int) (i j : Nat) : (swp xs i j).length = xs.length := by simp [swp]
theorem getD_set (xs : List Int) (i k : Nat) (v : Int) (hi : i < xs.length) : (xs.set i v).getD k 0 = if k = i then v else xs.getD k 0 := by
  simp only [List.getD_eq_getElem?_getD, List.getElem?_set]
  by_cases h : i = k
  · subst h; simp [hi]
  · simp [h, Ne.symm h]
theorem swp_at {xs : List Int} {i j : Nat} (hi : i < xs.length) (hj : j < xs.length) (k : Nat) : (swp xs i j).getD k 0 = if k = j then xs.getD i 0 else if k = i then xs.getD j 0 else xs.getD k 0 := by
  rw [swp, getD_set _ _ _ _ (by simpa using hj), getD_set _ _ _ _ hi]
theorem swp_perm {xs : List Int} {i j : Nat} (hi : i < xs.length) (hj : j < xs.length) : (swp xs i j).Perm xs := by
  have := List.set_set_perm hi hj
  simpa [swp, List.getD_eq_getElem?_getD, hi, hj] using this

/-- The place above. -/
def par (k : Nat) : Nat := (k - 1) / 2
theorem par_lt {k : Nat} (h : 1 ≤ k) : par k < k := by unfold par; omega
theorem par_child {k i : Nat} (h : 1 ≤ k) (e : par k = i) : k = 2 * i + 1 ∨ k = 2 * i + 2 := by unfold par at e; omega
theorem par_l (i : Nat) : par (2 * i + 1) = i := by unfold par; omega
theorem par_r (i : Nat) : par (2 * i + 2) = i := by unfold par; omega

/-- From place i0 on, of the first n, each is no less than what stands above it. -/
def HeapFrom (i0 n : Nat) (xs : List Int) : Prop := ∀ k, 1 ≤ k → k < n → i0 ≤ par k → xs.getD (par k) 0 ≤ xs.getD k 0
theorem heap_min {n : Nat} {xs : List Int} (h : HeapFrom 0 n xs) : ∀ k, k < n → xs.getD 0 0 ≤ xs.getD k 0 := by
  intro k
  induction k using Nat.strongRecOn with
  | ind k ih =>
    intro hk
    rcases Nat.eq_zero_or_pos k with h0 | h0
    · subst h0; exact Int.le_refl _
    · have := ih (par k) (par_lt h0) (by have := par_lt h0; omega)
      have := h k h0 hk (Nat.zero_le _)
      omega

/-- The same but for place i, going down. -/
structure DownAt (i0 n i : Nat) (xs ys : List Int) : Prop where
  perm : ys.Perm xs
  ge : i0 ≤ i
  ok : ∀ k, 1 ≤ k → k < n → i0 ≤ par k → par k ≠ i → ys.getD (par k) 0 ≤ ys.getD k 0
  up : i0 < i → i0 ≤ par i → ∀ k, k < n → 1 ≤ k → par k = i → ys.getD (par i) 0 ≤ ys.getD k 0
  rest : ∀ k, n ≤ k → ys.getD k 0 = xs.getD k 0
theorem down_start {i0 n : Nat} {xs : List Int} (h : HeapFrom (i0 + 1) n xs) : DownAt i0 n i0 xs xs :=
  ⟨List.Perm.refl _, Nat.le_refl _, fun k h1 h2 h3 h4 => h k h1 h2 (by omega), fun h => absurd h (Nat.lt_irrefl _), fun _ _ => rfl⟩
/-- What down leaves. -/
structure Downed (i0 n : Nat) (xs ys : List Int) : Prop where
  perm : ys.Perm xs
  heap : HeapFrom i0 n ys
  rest : ∀ k, n ≤ k → ys.getD k 0 = xs.getD k 0
theorem down_leaf {i0 n i : Nat} {xs ys : List Int} (h : DownAt i0 n i xs ys) (hn : n ≤ 2 * i + 1) : Downed i0 n xs ys :=
  ⟨h.perm, fun k h1 h2 h3 => h.ok k h1 h2 h3 (fun e => by rcases par_child h1 e with e | e <;> omega), h.rest⟩
/-- j: the lesser child. -/
def LessChild (n i j : Nat) (ys : List Int) : Prop := (j = 2 * i + 1 ∨ j = 2 * i + 2) ∧ j < n ∧ ∀ k, k < n → 1 ≤ k → par k = i → ys.getD j 0 ≤ ys.getD k 0
theorem down_stop {i0 n i j : Nat} {xs ys : List Int} (h : DownAt i0 n i xs ys) (hj : LessChild n i j ys) (hl : ¬ ys.getD j 0 < ys.getD i 0) : Downed i0 n xs ys :=
  ⟨h.perm, fun k h1 h2 h3 => by
    by_cases e : par k = i
    · have := hj.2.2 k h2 h1 e
      rw [e]; omega
    · exact h.ok k h1 h2 h3 e, h.rest⟩
theorem down_step {i0 n i j : Nat} {xs ys : List Int} (h : DownAt i0 n i xs ys) (hj : LessChild n i j ys) (hl : ys.getD j 0 < ys.getD i 0) (hn : n ≤ ys.length) : DownAt i0 n j xs (swp ys i j) := by
  obtain ⟨hj1, hj2, hj3⟩ := hj
  have hij : i < j := by omega
  have hpj : par j = i := by rcases hj1 with e | e <;> subst e <;> simp [par_l, par_r]
  have hi : i < ys.length := by omega
  have hjl : j < ys.length := by omega
  have hg := h.ge
  refine ⟨(swp_perm hi hjl).trans h.perm, by omega, fun k h1 h2 h3 h4 => ?_, fun _ h3 k h1 h2 e => ?_, fun k hk => ?_⟩
  · rw [swp_at hi hjl, swp_at hi hjl]
    by_cases e : par k = i
    · rw [e, if_neg (by omega), if_pos rfl]
      by_cases ek : k = j
      · rw [if_pos ek]; omega
      · have hki : k ≠ i := by have := par_lt h1; omega
        rw [if_neg ek, if_neg hki]
        exact hj3 k h2 h1 e
    · rw [if_neg h4, if_neg e]
      by_cases ek : k = j
      · subst ek; exact absurd hpj e
      · rw [if_neg ek]
        by_cases eki : k = i
        · subst eki
          rw [if_pos rfl]
          have hlt : i0 < k := by have := par_lt h1; omega
          exact h.up hlt h3 j hj2 (by omega) hpj
        · rw [if_neg eki]
          exact h.ok k h1 h2 h3 e
  · rw [hpj, swp_at hi hjl, swp_at hi hjl, if_neg (by omega), if_pos rfl]
    have hk1 : k ≠ j := by have := par_lt h2; omega
    have hk2 : k ≠ i := by have := par_lt h2; omega
    rw [if_neg hk1, if_neg hk2]
    have := h.ok k h2 h1 (by rw [e]; omega) (by omega)
    rw [e] at this
    exact this
  · rw [swp_at hi hjl, if_neg (by omega), if_neg (by omega)]
    exact h.rest k hk

/-- Going up from place j, of n. -/
structure UpAt (n j : Nat) (xs ys : List Int) : Prop where
  perm : ys.Perm xs
  lt : j < n
  ok : ∀ k, 1 ≤ k → k < n → k ≠ j → ys.getD (par k) 0 ≤ ys.getD k 0
  up : 1 ≤ j → ∀ k, k < n → 1 ≤ k → par k = j → ys.getD (par j) 0 ≤ ys.getD k 0
theorem up_stop {n j : Nat} {xs ys : List Int} (h : UpAt n j xs ys) (hl : j = 0 ∨ ¬ ys.getD j 0 < ys.getD (par j) 0) : HeapFrom 0 n ys := by
  intro k h1 h2 _
  by_cases e : k = j
  · subst e
    rcases hl with e | e
    · omega
    · omega
  · exact h.ok k h1 h2 e
theorem up_step {n j : Nat} {xs ys : List Int} (h : UpAt n j xs ys) (hj : 1 ≤ j) (hl : ys.getD j 0 < ys.getD (par j) 0) (hn : n ≤ ys.length) : UpAt n (par j) xs (swp ys (par j) j) := by
  have hp := par_lt hj
  have hjn := h.lt
  have hi : par j < ys.length := by omega
  have hjl : j < ys.length := by omega
  refine ⟨(swp_perm hi hjl).trans h.perm, by omega, fun k h1 h2 h4 => ?_, fun h1 k h2 h3 e => ?_⟩
  · rw [swp_at hi hjl, swp_at hi hjl]
    have hk := par_lt h1
    by_cases ek : k = j
    · subst ek
      rw [if_pos rfl, if_neg (by omega), if_pos rfl]
      omega
    · rw [if_neg ek, if_neg h4]
      by_cases e1 : par k = j
      · rw [if_pos e1]
        exact h.up hj k h2 h1 e1
      · rw [if_neg e1]
        by_cases e2 : par k = par j
        · rw [if_pos e2]
          have := h.ok k h1 h2 ek
          rw [e2] at this
          omega
        · rw [if_neg e2]
          exact h.ok k h1 h2 ek
  · have hpp := par_lt h1
    have hk := par_lt h3
    rw [swp_at hi hjl, swp_at hi hjl, if_neg (by omega), if_neg (by omega)]
    have h5 := h.ok (par j) h1 (by omega) (by omega)
    by_cases ek : k = j
    · rw [if_pos ek]; exact h5
    · rw [if_neg ek, if_neg (by omega)]
      have := h.ok k h3 h2 ek
      rw [e] at this
      omega
theorem up_start {n : Nat} {xs : List Int} (h : HeapFrom 0 n xs) (x : Int) (hn : n = xs.length) : UpAt (n + 1) n (xs ++ [x]) (xs ++ [x]) := by
  subst hn
  have e : ∀ k, k < xs.length → (xs ++ [x]).getD k 0 = xs.getD k 0 := fun k hk => by simp [List.getD_eq_getElem?_getD, List.getElem?_append_left hk]
  refine ⟨List.Perm.refl _, by omega, fun k h1 h2 h3 => ?_, fun h1 k h2 h3 e => ?_⟩
  · have := par_lt h1
    rw [e _ (by omega), e _ (by omega)]
    exact h k h1 (by omega) (Nat.zero_le _)
  · have := par_lt h3
    omega

/-- The first n of an exchanged heap, its first with its last. -/
theorem pop_start {n : Nat} {xs : List Int} (h : HeapFrom 0 (n + 1) xs) (hn : xs.length = n + 1) : HeapFrom 1 n (swp xs 0 n) := by
  intro k h1 h2 h3
  have hp := par_lt h1
  rw [swp_at (by omega) (by omega), swp_at (by omega) (by omega), if_neg (by omega), if_neg (by omega), if_neg (by omega), if_neg (by omega)]
  exact h k h1 (by omega) (Nat.zero_le _)
theorem heap_cut {i0 n m : Nat} {xs : List Int} (h : HeapFrom i0 n xs) (hm : m ≤ n) : HeapFrom i0 m xs := fun k h1 h2 h3 => h k h1 (by omega) h3
theorem heap_leaf {n : Nat} (xs : List Int) : HeapFrom (n / 2) n xs := by
  intro k h1 h2 h3
  unfold par at h3
  omega
theorem heap_take {n : Nat} {xs : List Int} (h : HeapFrom 0 n xs) : HeapFrom 0 n (xs.take n) := by
  intro k h1 h2 h3
  have hp := par_lt h1
  have e : ∀ k, k < n → (xs.take n).getD k 0 = xs.getD k 0 := fun k hk => by simp [List.getD_eq_getElem?_getD, hk]
  rw [e _ h2, e _ (by omega)]
  exact h k h1 h2 h3

/-- Ascending, doubles let in. -/
def sortedI (xs : List Int) : Prop := xs.Pairwise (· ≤ ·)
theorem asc_sorted {lo hi : Int} {l : List Int} (h : asc lo hi l = true) : sortedI l := by
  induction l generalizing lo with
  | nil => exact List.Pairwise.nil
  | cons x l ih =>
    obtain ⟨h1, h2, h3⟩ := asc_head h
    exact List.pairwise_cons.2 ⟨fun y hy => by have := asc_mem h3 y hy; omega, ih h3⟩
theorem sorted_perm {l l' : List Int} (h : sortedI l) (h' : sortedI l') (hp : l.Perm l') : l = l' := List.Perm.eq_of_pairwise (fun _ _ _ _ h1 h2 => Int.le_antisymm h1 h2) h h' hp
theorem sorted_snoc {l : List Int} {x : Int} (h : sortedI l) (hx : ∀ y ∈ l, y ≤ x) : sortedI (l ++ [x]) := by
  unfold sortedI at *
  rw [List.pairwise_append]
  exact ⟨h, by simp, fun a ha b hb => by rw [List.mem_singleton.1 hb]; exact hx a ha⟩
theorem getD_mem {xs : List Int} {k : Nat} (h : k < xs.length) : xs.getD k 0 ∈ xs := by
  rw [List.getD_eq_getElem?_getD, List.getElem?_eq_getElem h]
  exact List.getElem_mem h
theorem heap_head {xs : List Int} (h : HeapFrom 0 xs.length xs) : ∀ y ∈ xs, xs.getD 0 0 ≤ y := by
  intro y hy
  obtain ⟨k, hk, rfl⟩ := List.mem_iff_getElem.1 hy
  have := heap_min h k hk
  rwa [List.getD_eq_getElem?_getD (l := xs) (i := k), List.getElem?_eq_getElem hk] at this
end Go.Proofs.Ytfcammfdengdbaa
