/- Barriers: what is left when positions are done. Plain lemmas. -/
import Derived.Test.YtfcammfdengdbaaBarTake
namespace Go.Proofs.Ytfcammfdengdbaa
open Go.RowKit

theorem asc_pair {lo hi : Int} {l : List Int} (h : asc lo hi l = true) : l.Pairwise (· < ·) := by
  induction l generalizing lo with
  | nil => exact List.Pairwise.nil
  | cons x l ih =>
    obtain ⟨_, _, h3⟩ := asc_head h
    exact List.Pairwise.cons (fun y hy => (asc_mem h3 y hy).1) (ih h3)
theorem asc_of {lo hi : Int} {l : List Int} (h : ∀ x ∈ l, lo < x ∧ x ≤ hi) (hp : l.Pairwise (· < ·)) : asc lo hi l = true := by
  induction l generalizing lo with
  | nil => rfl
  | cons x l ih =>
    obtain ⟨h1, h2⟩ := List.pairwise_cons.1 hp
    have h3 := h x (by simp)
    simp only [asc, Bool.and_eq_true, decide_eq_true_eq]
    exact ⟨h3, ih (fun y hy => ⟨h1 y hy, (h y (by simp [hy])).2⟩) h2⟩

theorem news_cons (d : Int) (m : Nat) : news d (m + 1) = d :: news (d + 1) m := by
  unfold news
  rw [List.range_succ_eq_map, List.map_cons, List.map_map]
  congr 1
  · simp
  · refine List.map_congr_left fun i _ => ?_
    simp only [Function.comp_apply]
    omega

theorem asc_news_len {m : Nat} {f : Int} {l : List Int} (h : asc (f - 1) (f + m - 1) l = true) (hl : l.length = m) : l = news f m := by
  induction m generalizing f l with
  | zero => rw [List.eq_nil_of_length_eq_zero hl]; rfl
  | succ m ih =>
    cases l with
    | nil => simp at hl
    | cons x r =>
      obtain ⟨h1, h2, h3⟩ := asc_head h
      have h4 := asc_len h3 h2
      have h5 : r.length = m := by simpa using hl
      obtain rfl : x = f := by omega
      rw [news_cons, ih (f := x + 1) (by rw [show x + 1 - 1 = x by omega, show x + 1 + (m : Int) - 1 = x + ((m + 1 : Nat) : Int) - 1 by omega]; exact h3) h5]

theorem asc_news_mem {m : Nat} {f : Int} {l : List Int} (h : asc (f - 1) (f + m - 1) l = true) (hm : ∀ x ∈ news f m, x ∈ l) : l = news f m := by
  induction m generalizing f l with
  | zero =>
    have := asc_len h (by omega)
    rw [List.eq_nil_of_length_eq_zero (l := l) (by omega)]
    rfl
  | succ m ih =>
    rw [news_cons] at hm
    have hf := hm f (by simp)
    cases l with
    | nil => simp at hf
    | cons x r =>
      obtain ⟨h1, h2, h3⟩ := asc_head h
      obtain rfl : x = f := by
        rcases List.mem_cons.1 hf with e | e
        · exact e.symm
        · have := asc_mem h3 f e
          omega
      rw [news_cons, ← ih (f := x + 1) (by rw [show x + 1 - 1 = x by omega, show x + 1 + (m : Int) - 1 = x + ((m + 1 : Nat) : Int) - 1 by omega]; exact h3) fun y hy => by
        rcases List.mem_cons.1 (hm y (List.mem_cons_of_mem _ hy)) with e | e
        · have := (news_mem.1 hy).1
          omega
        · exact e]

/-- In the range from f on, m positions. -/
def inn (f : Int) (m : Nat) (x : Int) : Bool := decide (f ≤ x) && decide (x < f + m)
def outs (f : Int) (m : Nat) (xs : List Int) : List Int := xs.filter fun x => !inn f m x
theorem inn_yes {f x : Int} {m : Nat} (h1 : f ≤ x) (h2 : x < f + m) : inn f m x = true := by simp [inn, h1, h2]
theorem inn_no {f x : Int} {m : Nat} (h : x < f ∨ f + m ≤ x) : inn f m x = false := by
  unfold inn
  rcases h with h | h
  · rw [decide_eq_false (by omega : ¬ f ≤ x)]; rfl
  · rw [decide_eq_false (by omega : ¬ x < f + m), Bool.and_false]
theorem outs_app (f : Int) (m : Nat) (xs ys : List Int) : outs f m (xs ++ ys) = outs f m xs ++ outs f m ys := List.filter_append ..
theorem outs_all {f : Int} {m : Nat} {xs : List Int} (h : ∀ x ∈ xs, x < f ∨ f + m ≤ x) : outs f m xs = xs :=
  List.filter_eq_self.2 fun x hx => by rw [inn_no (h x hx)]; rfl
theorem outs_none {f : Int} {m : Nat} {xs : List Int} (h : ∀ x ∈ xs, f ≤ x ∧ x < f + m) : outs f m xs = [] :=
  List.filter_eq_nil_iff.2 fun x hx => by rw [inn_yes (h x hx).1 (h x hx).2]; simp
theorem outs_take_yes {f : Int} {m k : Nat} {xs : List Int} (hk : k < xs.length) (h : xs[k] < f ∨ f + m ≤ xs[k]) : outs f m (xs.take (k + 1)) = outs f m (xs.take k) ++ [xs[k]] := by
  rw [List.take_succ_eq_append_getElem hk, outs_app, outs_all (xs := [xs[k]]) (by simpa using h)]
theorem outs_take_no {f : Int} {m k : Nat} {xs : List Int} (hk : k < xs.length) (h : f ≤ xs[k] ∧ xs[k] < f + m) : outs f m (xs.take (k + 1)) = outs f m (xs.take k) := by
  rw [List.take_succ_eq_append_getElem hk, outs_app, outs_none (xs := [xs[k]]) (by simpa using h), List.append_nil]
theorem outs_len_take {f : Int} {m : Nat} (xs : List Int) (k : Nat) : (outs f m (xs.take k)).length ≤ k := by
  have := List.length_filter_le (fun x => !inn f m x) (xs.take k)
  rw [List.length_take] at this
  unfold outs
  omega
theorem two_len (p : Int → Bool) (xs : List Int) : (xs.filter p).length + (xs.filter fun x => !p x).length = xs.length := by
  induction xs with
  | nil => rfl
  | cons x xs ih => cases h : p x <;> simp [h] <;> omega

/-- All of the positions are open if and only if so many fewer are left. -/
theorem done_len {d f : Int} {m : Nat} {xs : List Int} (h : barB d xs = true) : ((outs f m xs).length : Int) = (xs.length : Int) - (m : Int) ↔ ∀ x ∈ news f m, x ∈ xs := by
  obtain ⟨_, h2⟩ := barB_parts h
  have hin : asc (f - 1) (f + m - 1) (xs.filter (inn f m)) = true := asc_of (fun x hx => by
    have := (List.mem_filter.1 hx).2
    simp only [inn, Bool.and_eq_true, decide_eq_true_eq] at this
    omega) ((asc_pair h2).filter _)
  have hl := two_len (inn f m) xs
  unfold outs
  constructor
  · intro hq x hx
    have h3 := asc_news_len hin (by omega)
    rw [← h3] at hx
    exact (List.mem_filter.1 hx).1
  · intro hm
    have h3 := asc_news_mem hin fun x hx => List.mem_filter.2 ⟨hm x hx, by
      obtain ⟨a, b⟩ := news_mem.1 hx
      exact inn_yes a b⟩
    have h4 := news_len f m
    rw [← h3] at h4
    omega

def doneB (d : Int) (xs : List Int) (f m : Int) : Bool := barB d xs && (inR f 0 99 && (inR m 1 24 && decide (∀ x ∈ news f m.toNat, x ∈ xs)))
def doneN (d : Int) (xs : List Int) (f m : Int) : Int := if doneB d xs f m = true then d else 0
def doneL (d : Int) (xs : List Int) (f m : Int) : List Int := if doneB d xs f m = true then outs f m.toNat xs else []
theorem done_no {d f m : Int} {xs : List Int} (h : doneB d xs f m = false) : doneN d xs f m = 0 ∧ doneL d xs f m = [] := by simp [doneN, doneL, h]
theorem done_yes {d f m : Int} {xs : List Int} (h : doneB d xs f m = true) : doneN d xs f m = d ∧ doneL d xs f m = outs f m.toNat xs := by simp [doneN, doneL, h]
theorem doneB_parts {d f m : Int} {xs : List Int} (h : doneB d xs f m = true) : barB d xs = true ∧ (0 ≤ f ∧ f ≤ 99) ∧ (1 ≤ m ∧ m ≤ 24) ∧ ∀ x ∈ news f m.toNat, x ∈ xs := by
  simp only [doneB, Bool.and_eq_true, inR, decide_eq_true_eq] at h
  exact ⟨h.1, h.2.1, h.2.2.1, h.2.2.2⟩
theorem doneB_yes {d f m : Int} {xs : List Int} (h : barB d xs = true) (h1 : 0 ≤ f ∧ f ≤ 99) (h2 : 1 ≤ m ∧ m ≤ 24) (h3 : ∀ x ∈ news f m.toNat, x ∈ xs) : doneB d xs f m = true := by
  simp only [doneB, Bool.and_eq_true, inR, decide_eq_true_eq]
  exact ⟨h, h1, h2, h3⟩

/-- What is left is valid. -/
theorem outs_valid {d f : Int} {m : Nat} {xs : List Int} (h : barB d xs = true) : barB d (outs f m xs) = true := by
  obtain ⟨⟨h0, h1⟩, h2⟩ := barB_parts h
  exact barB_yes h0 h1 (asc_of (fun x hx => asc_mem h2 x (List.mem_filter.1 hx).1) ((asc_pair h2).filter _))
theorem take_valid {d : Int} {m : Nat} {xs : List Int} (h : barB d xs = true) (h2 : d + m ≤ 100) : barB (d + m) (xs ++ news d m) = true := by
  obtain ⟨⟨h0, h1⟩, _⟩ := barB_parts h
  exact barB_yes (by omega) h2 (asc_take h)
theorem below_next {d : Int} {xs : List Int} (h : barB d xs = true) : ∀ x ∈ xs, x < d := fun x hx => by
  have := (asc_mem (barB_parts h).2 x hx).2
  omega
theorem take_outs {d : Int} {xs : List Int} (h : barB d xs = true) (m : Nat) : outs d m (xs ++ news d m) = xs := by
  rw [outs_app, outs_all (fun x hx => .inl (below_next h x hx)), outs_none (fun x hx => news_mem.1 hx), List.append_nil]
theorem take_done {d : Int} {xs : List Int} {m : Nat} (h : barB d xs = true) (hm : 1 ≤ m) (hm2 : m ≤ 24) (h2 : d + m ≤ 100) : doneB (d + m) (xs ++ news d m) d (m : Int) = true := by
  obtain ⟨⟨h0, h1⟩, _⟩ := barB_parts h
  exact doneB_yes (take_valid h h2) ⟨h0, by omega⟩ ⟨by omega, by omega⟩ fun x hx => by
    rw [Int.toNat_natCast] at hx
    exact List.mem_append.2 (.inr hx)
theorem take_head {d : Int} {m : Nat} {xs : List Int} (hm : 1 ≤ m) : headOr (d + m) (xs ++ news d m) = headOr d xs := by
  cases xs with
  | nil =>
    obtain ⟨k, rfl⟩ : ∃ k, m = k + 1 := ⟨m - 1, by omega⟩
    rw [List.nil_append, news_cons]
    rfl
  | cons x xs => rfl
theorem take_wait {d : Int} {m : Nat} {xs : List Int} (h : barB d xs = true) (hm : 1 ≤ m) (h2 : d + m ≤ 100) : barWait (d + m) (xs ++ news d m) = barWait d xs := by
  rw [barWait_yes (take_valid h h2), barWait_yes h, take_head hm, List.length_append, news_len]
  omega
theorem outs_head {d f : Int} {m : Nat} {xs : List Int} (h : barB d xs = true) : headOr d xs ≤ headOr d (outs f m xs) := by
  cases e : outs f m xs with
  | nil => exact (headOr_bound h).2.1
  | cons y ys =>
    have hy : y ∈ xs := (List.mem_filter.1 (show y ∈ outs f m xs by rw [e]; simp)).1
    obtain ⟨_, h2⟩ := barB_parts h
    cases xs with
    | nil => simp at hy
    | cons x xs =>
      obtain ⟨_, _, h3⟩ := asc_head h2
      simp only [headOr]
      rcases List.mem_cons.1 hy with rfl | hy
      · exact Int.le_refl _
      · have := asc_mem h3 y hy
        omega
theorem done_again {d f m : Int} {xs : List Int} (h : doneB d xs f m = true) : doneB d (outs f m.toNat xs) f m = false := by
  obtain ⟨_, _, h3, h4⟩ := doneB_parts h
  rw [Bool.eq_false_iff]
  intro e
  obtain ⟨_, _, _, h5⟩ := doneB_parts e
  obtain ⟨k, hk⟩ : ∃ k, m.toNat = k + 1 := ⟨m.toNat - 1, by omega⟩
  rw [hk] at h5
  have h6 := (List.mem_filter.1 (h5 f (by rw [news_cons]; simp))).2
  rw [inn_yes (Int.le_refl f) (by omega)] at h6
  simp at h6
/-- The two ways round: the first position alone, and the others. -/
theorem order_parts {d : Int} {k : Nat} {xs : List Int} (h : barB d xs = true) (hk : 1 ≤ k) (hk2 : k + 1 ≤ 24) (h2 : d + (k + 1 : Nat) ≤ 100) :
    doneB (d + (k + 1 : Nat)) (xs ++ news d (k + 1)) d 1 = true ∧ outs d 1 (xs ++ news d (k + 1)) = xs ++ news (d + 1) k ∧
    doneB (d + (k + 1 : Nat)) (xs ++ news (d + 1) k) (d + 1) (k : Int) = true ∧ outs (d + 1) k (xs ++ news (d + 1) k) = xs ∧
    doneB (d + (k + 1 : Nat)) (xs ++ news d (k + 1)) (d + 1) (k : Int) = true ∧ outs (d + 1) k (xs ++ news d (k + 1)) = xs ++ [d] ∧
    doneB (d + (k + 1 : Nat)) (xs ++ [d]) d 1 = true ∧ outs d 1 (xs ++ [d]) = xs := by
  obtain ⟨⟨h0, h1⟩, h3⟩ := barB_parts h
  have hb := below_next h
  have v1 := take_valid (m := k + 1) h h2
  have e1 : outs d 1 (xs ++ news d (k + 1)) = xs ++ news (d + 1) k := by
    rw [news_cons, outs_app, outs_all (fun x hx => .inl (hb x hx)), show d :: news (d + 1) k = [d] ++ news (d + 1) k from rfl, outs_app, outs_none (xs := [d]) (by simp; omega),
      outs_all (fun x hx => by have := (news_mem.1 hx).1; right; omega), List.nil_append]
  have e2 : outs (d + 1) k (xs ++ news (d + 1) k) = xs := by
    rw [outs_app, outs_all (fun x hx => by have := hb x hx; left; omega), outs_none (fun x hx => news_mem.1 hx), List.append_nil]
  have e3 : outs (d + 1) k (xs ++ news d (k + 1)) = xs ++ [d] := by
    rw [news_cons, outs_app, outs_all (fun x hx => by have := hb x hx; left; omega), show d :: news (d + 1) k = [d] ++ news (d + 1) k from rfl, outs_app, outs_all (xs := [d]) (by simp; omega),
      outs_none (fun x hx => news_mem.1 hx), List.append_nil]
  have e4 : outs d 1 (xs ++ [d]) = xs := by
    rw [outs_app, outs_all (fun x hx => .inl (hb x hx)), outs_none (xs := [d]) (by simp; omega), List.append_nil]
  have v2 : barB (d + (k + 1 : Nat)) (xs ++ news (d + 1) k) = true := by rw [← e1]; exact outs_valid v1
  have v3 : barB (d + (k + 1 : Nat)) (xs ++ [d]) = true := by rw [← e3]; exact outs_valid v1
  refine ⟨doneB_yes v1 ⟨h0, by omega⟩ ⟨by omega, by omega⟩ fun x hx => ?_, e1, doneB_yes v2 ⟨by omega, by omega⟩ ⟨by omega, by omega⟩ fun x hx => ?_, e2,
    doneB_yes v1 ⟨by omega, by omega⟩ ⟨by omega, by omega⟩ fun x hx => ?_, e3, doneB_yes v3 ⟨h0, by omega⟩ ⟨by omega, by omega⟩ fun x hx => ?_, e4⟩
  · rw [news_cons]
    have := news_mem.1 hx
    simp at this
    obtain rfl : x = d := by omega
    simp
  · rw [Int.toNat_natCast] at hx
    exact List.mem_append.2 (.inr hx)
  · rw [Int.toNat_natCast] at hx
    rw [news_cons]
    exact List.mem_append.2 (.inr (List.mem_cons_of_mem _ hx))
  · have := news_mem.1 hx
    simp at this
    obtain rfl : x = d := by omega
    simp
end Go.Proofs.Ytfcammfdengdbaa
