/- Marking a position, and the positions that are missing: plain lists. -/
import Derived.Test.YtjhkmgoephmbpaaHas
namespace Go.Proofs.Ytjhkmgoephmbpaa
open Go.RowKit

/-- An ascending list with a further number. -/
def insA (x : Int) : List Int → List Int
  | [] => [x]
  | y :: r => if x < y then x :: y :: r else y :: insA x r
/-- Done goes on as far as all is handled. -/
def stripA (d : Int) : List Int → Int × List Int
  | [] => (d, [])
  | y :: r => if y = d then stripA (d + 1) r else (d, y :: r)

theorem insA_len (x : Int) (xs : List Int) : (insA x xs).length = xs.length + 1 := by
  induction xs with
  | nil => rfl
  | cons y r ih => rw [insA]; split <;> simp_all
theorem insA_mem {x y : Int} {xs : List Int} : y ∈ insA x xs ↔ y = x ∨ y ∈ xs := by
  induction xs with
  | nil => simp [insA]
  | cons z r ih =>
    rw [insA]
    split
    · simp
    · rw [List.mem_cons, ih, List.mem_cons]
      exact ⟨fun h => by rcases h with h | h | h <;> simp [h], fun h => by rcases h with h | h | h <;> simp [h]⟩
theorem insA_asc {lo hi x : Int} {xs : List Int} (h : asc lo hi xs = true) (h1 : lo < x) (h2 : x ≤ hi) (h3 : x ∉ xs) : asc lo hi (insA x xs) = true := by
  induction xs generalizing lo with
  | nil => simp [insA, asc, h1, h2]
  | cons y r ih =>
    obtain ⟨a, b, c⟩ := asc_head h
    rw [insA]
    split
    · rename_i hlt
      simp only [asc, Bool.and_eq_true, decide_eq_true_eq]
      exact ⟨⟨h1, h2⟩, ⟨hlt, b⟩, c⟩
    · rename_i hge
      have hne : x ≠ y := fun e => h3 (by simp [e])
      simp only [asc, Bool.and_eq_true, decide_eq_true_eq]
      exact ⟨⟨a, b⟩, ih c (by omega) (fun hm => h3 (List.mem_cons_of_mem _ hm))⟩
/-- Where nothing is less, the number stands at the end. -/
theorem insA_end {x : Int} {xs : List Int} (h : ∀ y ∈ xs, y ≤ x) : insA x xs = xs ++ [x] := by
  induction xs with
  | nil => rfl
  | cons y r ih =>
    have := h y (by simp)
    rw [insA, if_neg (by omega), ih (fun z hz => h z (by simp [hz]))]
    rfl
theorem insA_app {x : Int} {xs ys : List Int} (h : ∃ y ∈ xs, x < y) : insA x (xs ++ ys) = insA x xs ++ ys := by
  induction xs with
  | nil => simp at h
  | cons y r ih =>
    rw [List.cons_append, insA, insA]
    split
    · rfl
    · rename_i hge
      rw [ih, List.cons_append]
      obtain ⟨z, hz, hlt⟩ := h
      rcases List.mem_cons.1 hz with rfl | hz
      · exact absurd hlt hge
      · exact ⟨z, hz, hlt⟩

theorem strip_sum (d : Int) (l : List Int) : (stripA d l).1 + ((stripA d l).2.length : Int) = d + l.length := by
  induction l generalizing d with
  | nil => rfl
  | cons y r ih =>
    rw [stripA]
    split
    · rw [ih]; simp; omega
    · rfl
theorem strip_ge (d : Int) (l : List Int) : d ≤ (stripA d l).1 := by
  induction l generalizing d with
  | nil => exact Int.le_refl _
  | cons y r ih =>
    rw [stripA]
    split
    · have := ih (d + 1); omega
    · exact Int.le_refl _
theorem strip_asc {d hi : Int} {l : List Int} (h : asc (d - 1) hi l = true) : asc (stripA d l).1 hi (stripA d l).2 = true := by
  induction l generalizing d with
  | nil => rfl
  | cons y r ih =>
    obtain ⟨a, b, c⟩ := asc_head h
    rw [stripA]
    split
    · rename_i e
      subst e
      exact ih (by rw [show y + 1 - 1 = y by omega]; exact c)
    · simp only [asc, Bool.and_eq_true, decide_eq_true_eq]
      exact ⟨⟨by omega, b⟩, c⟩
theorem strip_hi {d hi : Int} {l : List Int} (h : asc (d - 1) hi l = true) (h1 : d ≤ hi + 1) : (stripA d l).1 ≤ hi + 1 := by
  induction l generalizing d with
  | nil => exact h1
  | cons y r ih =>
    obtain ⟨a, b, c⟩ := asc_head h
    rw [stripA]
    split
    · rename_i e
      subst e
      exact ih (by rw [show y + 1 - 1 = y by omega]; exact c) (by omega)
    · exact h1
theorem strip_has {d hi : Int} {l : List Int} (h : asc (d - 1) hi l = true) (y : Int) : (y ∈ (stripA d l).2 ∨ y < (stripA d l).1) ↔ (y ∈ l ∨ y < d) := by
  induction l generalizing d with
  | nil => rfl
  | cons z r ih =>
    obtain ⟨a, b, c⟩ := asc_head h
    rw [stripA]
    split
    · rename_i e
      subst e
      rw [ih (by rw [show z + 1 - 1 = z by omega]; exact c), List.mem_cons]
      constructor
      · rintro (h | h)
        · exact .inl (.inr h)
        · rcases (by omega : y = z ∨ y < z) with e | e
          · exact .inl (.inl e)
          · exact .inr e
      · rintro ((h | h) | h)
        · exact .inr (by omega)
        · exact .inl h
        · exact .inr (by omega)
    · rfl
theorem strip_gt {d hi : Int} {l : List Int} (h : asc (d - 1) hi l = true) : d < (stripA d l).1 ↔ d ∈ l := by
  cases l with
  | nil => simp [stripA]
  | cons z r =>
    obtain ⟨a, b, c⟩ := asc_head h
    rw [stripA]
    split
    · rename_i e
      subst e
      have := strip_ge (z + 1) r
      simp
      omega
    · rename_i e
      constructor
      · intro h; simp at h
      · intro hm
        rcases List.mem_cons.1 hm with h1 | h1
        · exact absurd h1.symm e
        · have := (asc_mem c d h1).1
          omega

theorem hasB_iff {d x : Int} {xs : List Int} : hasB d xs x = true ↔ (x ∈ xs ∨ x < d) := by simp [hasB]
theorem ckB_of {d : Int} {xs : List Int} (h0 : 0 ≤ d) (h1 : d ≤ 100) (h2 : xs.length ≤ 8) (h3 : asc d 99 xs = true) : ckB d xs = true := by
  rw [ckB_asc d xs h0 h1 h2]; exact h3

/-- What a position that is not handled leaves. -/
structure MarkedTo (d : Int) (xs : List Int) (x d' : Int) (xs' : List Int) : Prop where
  ck : ckB d' xs' = decide (xs'.length ≤ 8)
  asc : asc d' 99 xs' = true
  d0 : 0 ≤ d'
  d1 : d' ≤ 100
  len : xs'.length ≤ 9
  sum : d' + (xs'.length : Int) = d + xs.length + 1
  ge : d ≤ d'
  gt : d < d' ↔ x = d
  has : ∀ y, (y ∈ xs' ∨ y < d') ↔ (y = x ∨ y ∈ xs ∨ y < d)
theorem mark_to {d x : Int} {xs : List Int} (h : ckB d xs = true) (hx : inR x 0 99 = true) (hn : hasB d xs x = false) :
    MarkedTo d xs x (stripA d (insA x xs)).1 (stripA d (insA x xs)).2 := by
  obtain ⟨⟨d0, d1⟩, hl, ha⟩ := ckB_parts h
  have hx' : 0 ≤ x ∧ x ≤ 99 := by simpa [inR] using hx
  have hn' : x ∉ xs ∧ ¬ x < d := by
    rw [Bool.eq_false_iff] at hn
    exact ⟨fun h => hn (hasB_iff.2 (.inl h)), fun h => hn (hasB_iff.2 (.inr h))⟩
  have hA : Go.Proofs.Ytjhkmgoephmbpaa.asc (d - 1) 99 (insA x xs) = true := insA_asc (asc_low ha (by omega)) (by omega) hx'.2 hn'.1
  have h1 := strip_asc hA
  have h2 := strip_hi hA (by omega)
  have h3 := strip_ge d (insA x xs)
  have h4 := strip_sum d (insA x xs)
  have h5 := strip_gt hA
  have h6 := strip_has hA
  rw [insA_len] at h4
  refine ⟨?_, h1, by omega, by omega, by omega, by omega, h3, ?_, ?_⟩
  · by_cases hq : (stripA d (insA x xs)).2.length ≤ 8
    · rw [decide_eq_true hq]
      exact ckB_of (by omega) (by omega) hq h1
    · rw [decide_eq_false hq]
      exact ckB_len _ _ (by omega)
  · rw [h5, insA_mem]
    constructor
    · rintro (e | e)
      · exact e.symm
      · have := (asc_mem ha d e).1; omega
    · exact fun e => .inl e.symm
  · intro y
    rw [h6, insA_mem, or_assoc]

/-- a, a + 1, .., b - 1 -/
def rangeI (a b : Int) : List Int := (List.range (b - a).toNat).map fun i : Nat => a + (i : Int)
theorem rangeI_nil {a b : Int} (h : b ≤ a) : rangeI a b = [] := by simp [rangeI, show (b - a).toNat = 0 by omega]
theorem rangeI_snoc {a b : Int} (h : a ≤ b) : rangeI a (b + 1) = rangeI a b ++ [b] := by
  simp only [rangeI]
  rw [show (b + 1 - a).toNat = (b - a).toNat + 1 by omega, List.range_succ, List.map_append]
  simp
  omega
theorem rangeI_app {a b c : Int} (h : a ≤ b) (h1 : b ≤ c) : rangeI a c = rangeI a b ++ rangeI b c := by
  obtain ⟨n, hn⟩ : ∃ n : Nat, c = b + n := ⟨(c - b).toNat, by omega⟩
  subst hn
  clear h1
  induction n with
  | zero => rw [show b + ((0 : Nat) : Int) = b by simp, rangeI_nil (Int.le_refl b), List.append_nil]
  | succ n ih =>
    rw [show b + ((n + 1 : Nat) : Int) = b + (n : Int) + 1 by omega, rangeI_snoc (by omega), ih, rangeI_snoc (by omega), List.append_assoc]
theorem rangeI_cons {a b : Int} (h : a < b) : rangeI a b = a :: rangeI (a + 1) b := by
  rw [rangeI_app (show a ≤ a + 1 by omega) (by omega), rangeI_snoc (Int.le_refl a), rangeI_nil (Int.le_refl a)]
  rfl
theorem rangeI_mem {a b x : Int} : x ∈ rangeI a b ↔ a ≤ x ∧ x < b := by
  simp only [rangeI, List.mem_map, List.mem_range]
  constructor
  · rintro ⟨i, hi, rfl⟩; omega
  · rintro ⟨h1, h2⟩; exact ⟨(x - a).toNat, by omega, by omega⟩
theorem rangeI_len (a b : Int) : (rangeI a b).length = (b - a).toNat := by simp [rangeI]

/-- The positions that are missing ahead of the last one. -/
def missA (d : Int) : List Int → List Int
  | [] => []
  | y :: r => rangeI d y ++ missA (y + 1) r
theorem missA_mem {d hi : Int} {xs : List Int} (h : asc (d - 1) hi xs = true) {x : Int} : x ∈ missA d xs → d ≤ x ∧ x ∉ xs ∧ ∃ y ∈ xs, x < y := by
  induction xs generalizing d with
  | nil => simp [missA]
  | cons y r ih =>
    obtain ⟨a, b, c⟩ := asc_head h
    rw [missA, List.mem_append, rangeI_mem]
    rintro (⟨h1, h2⟩ | hm)
    · refine ⟨h1, ?_, y, by simp, h2⟩
      intro hm
      rcases List.mem_cons.1 hm with e | e
      · omega
      · have := (asc_mem c x e).1; omega
    · obtain ⟨h1, h2, z, hz, h3⟩ := ih (d := y + 1) (by rw [show y + 1 - 1 = y by omega]; exact c) hm
      refine ⟨by omega, ?_, z, by simp [hz], h3⟩
      intro hm
      rcases List.mem_cons.1 hm with e | e
      · omega
      · exact h2 e
theorem missA_filter {d hi : Int} {xs : List Int} (h : asc (d - 1) hi xs = true) (hne : xs ≠ []) : (rangeI d (lastOf d xs)).filter (fun a => !decide (a ∈ xs)) = missA d xs := by
  induction xs generalizing d with
  | nil => exact absurd rfl hne
  | cons y r ih =>
    obtain ⟨a, b, c⟩ := asc_head h
    have hL : y ≤ lastOf y r := asc_last c
    rw [missA, lastOf]
    have h1 : (rangeI d y).filter (fun a => !decide (a ∈ y :: r)) = rangeI d y := by
      rw [List.filter_eq_self]
      intro x hx
      rw [rangeI_mem] at hx
      have : x ∉ y :: r := by
        intro hm
        rcases List.mem_cons.1 hm with e | e
        · omega
        · have := (asc_mem c x e).1; omega
      simp only [decide_eq_false this, Bool.not_false]
    rw [rangeI_app (show d ≤ y by omega) hL, List.filter_append, h1]
    congr 1
    cases r with
    | nil => rw [lastOf, rangeI_nil (Int.le_refl y)]; rfl
    | cons z r =>
      obtain ⟨a', b', c'⟩ := asc_head c
      have hL' : z ≤ lastOf z r := asc_last c'
      rw [lastOf, rangeI_cons (show y < lastOf z r by omega), List.filter_cons, if_neg (by simp), ← ih (d := y + 1) (by rw [show y + 1 - 1 = y by omega]; exact c) (by simp), lastOf]
      apply List.filter_congr
      intro x hx
      rw [rangeI_mem] at hx
      have : (x ∈ y :: z :: r) ↔ (x ∈ z :: r) := by
        rw [List.mem_cons]
        exact ⟨fun h => h.resolve_left (by omega), .inr⟩
      simp only [this]
theorem missA_head {d hi : Int} {xs : List Int} (h : asc d hi xs = true) (hne : missA d xs ≠ []) : ∃ r, missA d xs = d :: r := by
  cases xs with
  | nil => exact absurd rfl hne
  | cons y r =>
    obtain ⟨a, b, c⟩ := asc_head h
    rw [missA, rangeI_cons a]
    exact ⟨_, rfl⟩
theorem asc_range {lo a b : Int} (h : lo < a) : asc lo (b - 1) (rangeI a b) = true := by
  obtain ⟨n, hn⟩ : ∃ n : Nat, n = (b - a).toNat := ⟨_, rfl⟩
  induction n generalizing lo a with
  | zero => rw [rangeI_nil (by omega)]; rfl
  | succ n ih =>
    rw [rangeI_cons (by omega)]
    simp only [asc, Bool.and_eq_true, decide_eq_true_eq]
    exact ⟨⟨h, by omega⟩, ih (by omega) (by omega)⟩
theorem asc_high {lo hi hi' : Int} {l : List Int} (h : asc lo hi l = true) (hl : hi ≤ hi') : asc lo hi' l = true := by
  induction l generalizing lo with
  | nil => rfl
  | cons x l ih =>
    obtain ⟨h1, h2, h3⟩ := asc_head h
    simp only [asc, Bool.and_eq_true, decide_eq_true_eq]
    exact ⟨⟨h1, by omega⟩, ih h3⟩
theorem missA_asc {lo d hi : Int} {xs : List Int} (h : asc (d - 1) hi xs = true) (hlo : lo < d) : asc lo hi (missA d xs) = true := by
  induction xs generalizing d lo with
  | nil => rfl
  | cons y r ih =>
    obtain ⟨a, b, c⟩ := asc_head h
    rw [missA, asc_app, Bool.and_eq_true]
    refine ⟨asc_high (asc_range hlo) (by omega), ih (by rw [show y + 1 - 1 = y by omega]; exact c) ?_⟩
    rcases (by omega : d < y ∨ d = y) with q | q
    · have hm : lastOf lo (rangeI d y) ≤ y - 1 := by
        obtain ⟨z, hz⟩ : ∃ z, y = z + 1 := ⟨y - 1, by omega⟩
        subst hz
        rw [rangeI_snoc (by omega), lastOf_snoc]; omega
      omega
    · subst q; rw [rangeI_nil (Int.le_refl _)]; simp [lastOf]; omega
theorem asc_lt {lo hi : Int} {l : List Int} (h : asc lo hi l = true) {j k : Nat} (hj : j < k) (hk : k < l.length) : l[j]'(by omega) < l[k] := by
  induction l generalizing lo j k with
  | nil => simp at hk
  | cons x l ih =>
    obtain ⟨h1, h2, h3⟩ := asc_head h
    cases k with
    | zero => omega
    | succ k =>
      cases j with
      | zero => exact (asc_mem h3 _ (List.getElem_mem (by simpa using hk))).1
      | succ j => exact ih h3 (by omega) (by simpa using hk)

/-- Marking Done itself takes the first missing position away. -/
theorem strip_miss {d hi : Int} {l : List Int} (h : asc (d - 1) hi l = true) : missA (stripA d l).1 (stripA d l).2 = missA d l := by
  induction l generalizing d with
  | nil => rfl
  | cons y r ih =>
    obtain ⟨a, b, c⟩ := asc_head h
    rw [stripA]
    split
    · rename_i e
      subst e
      rw [ih (by rw [show y + 1 - 1 = y by omega]; exact c), missA, rangeI_nil (Int.le_refl _), List.nil_append]
    · rfl
theorem insA_low {d : Int} {xs : List Int} (h : ∀ y ∈ xs, d < y) : insA d xs = d :: xs := by
  cases xs with
  | nil => rfl
  | cons y r => rw [insA, if_pos (h y (by simp))]
theorem mark_miss {d hi : Int} {xs : List Int} (h : asc d hi xs = true) (hne : xs ≠ []) :
    missA (stripA d (insA d xs)).1 (stripA d (insA d xs)).2 = (missA d xs).tail := by
  rw [insA_low (fun y hy => (asc_mem h y hy).1), stripA, if_pos rfl, strip_miss (by rw [show d + 1 - 1 = d by omega]; exact h)]
  cases xs with
  | nil => exact absurd rfl hne
  | cons y r =>
    obtain ⟨a, b, c⟩ := asc_head h
    rw [missA, missA, rangeI_cons a]
    rfl
theorem strip_last {d hi : Int} {l : List Int} (h : asc (d - 1) hi l = true) : lastOf ((stripA d l).1 - 1) (stripA d l).2 = lastOf (d - 1) l := by
  induction l generalizing d with
  | nil => rfl
  | cons y r ih =>
    obtain ⟨a, b, c⟩ := asc_head h
    rw [stripA]
    split
    · rename_i e
      subst e
      rw [ih (by rw [show y + 1 - 1 = y by omega]; exact c), lastOf, show y + 1 - 1 = y by omega]
    · rfl
theorem mark_last {d hi : Int} {xs : List Int} (h : asc d hi xs = true) (hne : xs ≠ []) :
    lastOf ((stripA d (insA d xs)).1 - 1) (stripA d (insA d xs)).2 = lastOf (d - 1) xs := by
  rw [insA_low (fun y hy => (asc_mem h y hy).1), stripA, if_pos rfl, strip_last (by rw [show d + 1 - 1 = d by omega]; exact h), show d + 1 - 1 = d by omega]
  cases xs with
  | nil => exact absurd rfl hne
  | cons y r => rfl
theorem mark_len (d : Int) (xs : List Int) (h : ∀ y ∈ xs, d < y) : (stripA d (insA d xs)).2.length ≤ xs.length := by
  rw [insA_low h, stripA, if_pos rfl]
  have := strip_sum (d + 1) xs
  have := strip_ge (d + 1) xs
  omega
/-- Where nothing is missing, nothing is ahead. -/
theorem miss_none {d hi : Int} {xs : List Int} (h : asc d hi xs = true) (hm : missA d xs = []) : xs = [] := by
  cases xs with
  | nil => rfl
  | cons y r =>
    obtain ⟨a, b, c⟩ := asc_head h
    rw [missA, rangeI_cons a] at hm
    cases hm
end Go.Proofs.Ytjhkmgoephmbpaa
