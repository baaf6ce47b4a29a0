/- Locks: plain lists. -/
import Derived.Test.YtcchnkpkdeminaaInts
namespace Go.Proofs.Ytcchnkpkdeminaa
open Go.RowKit

/-- A lock as data. -/
structure Lk where
  s : Int
  o : Int
def Lk.cells (x : Lk) : List Value := [.int .i64 x.s, .int .i64 x.o]
/-- Valid locks above lo. -/
def lkA (lo : Int) : List Lk → Bool
  | [] => true
  | x :: r => (decide (lo < x.s ∧ x.s ≤ 7) && decide (1 ≤ x.o ∧ x.o ≤ 99)) && lkA x.s r
def lastL (lo : Int) : List Lk → Int
  | [] => lo
  | x :: r => lastL x.s r
theorem lastL_snoc (lo : Int) (l : List Lk) (x : Lk) : lastL lo (l ++ [x]) = x.s := by
  induction l generalizing lo with
  | nil => rfl
  | cons y l ih => exact ih y.s
theorem lkA_app (lo : Int) (l r : List Lk) : lkA lo (l ++ r) = (lkA lo l && lkA (lastL lo l) r) := by
  induction l generalizing lo with
  | nil => rfl
  | cons x l ih => rw [List.cons_append, lkA, ih, lkA, lastL]; simp only [Bool.and_assoc]
theorem lastL_take (lo : Int) (xs : List Lk) (k : Nat) (h : k < xs.length) : lastL lo (xs.take (k + 1)) = xs[k].s := by
  rw [List.take_succ_eq_append_getElem h, lastL_snoc]
theorem lkA_next {lo : Int} {xs : List Lk} {k : Nat} (h : k < xs.length) (h1 : lkA lo (xs.take k) = true) (h2 : lastL lo (xs.take k) < xs[k].s) (h3 : xs[k].s ≤ 7) (h4 : 1 ≤ xs[k].o ∧ xs[k].o ≤ 99) : lkA lo (xs.take (k + 1)) = true := by
  rw [List.take_succ_eq_append_getElem h, lkA_app, h1, lkA, lkA, decide_eq_true ⟨h2, h3⟩, decide_eq_true h4]
  rfl
theorem lkA_not {lo : Int} {xs : List Lk} {k : Nat} (h : k < xs.length) (h2 : xs[k].s ≤ lastL lo (xs.take k) ∨ 7 < xs[k].s ∨ ¬ (1 ≤ xs[k].o ∧ xs[k].o ≤ 99)) : lkA lo xs = false := by
  have e : xs = xs.take k ++ (xs[k] :: xs.drop (k + 1)) := by
    rw [← List.drop_eq_getElem_cons h, List.take_append_drop]
  rw [e, lkA_app, lkA]
  rcases h2 with h2 | h2 | h2
  · rw [decide_eq_false (by omega : ¬ (lastL lo (xs.take k) < xs[k].s ∧ xs[k].s ≤ 7))]; simp
  · rw [decide_eq_false (by omega : ¬ (lastL lo (xs.take k) < xs[k].s ∧ xs[k].s ≤ 7))]; simp
  · rw [decide_eq_false h2]; simp
theorem lkA_all {lo : Int} {xs : List Lk} (h : lkA lo (xs.take xs.length) = true) : lkA lo xs = true := by rwa [List.take_length] at h
theorem lkA_head {lo : Int} {x : Lk} {l : List Lk} (h : lkA lo (x :: l) = true) : lo < x.s ∧ x.s ≤ 7 ∧ 1 ≤ x.o ∧ x.o ≤ 99 ∧ lkA x.s l = true := by
  simp only [lkA, Bool.and_eq_true, decide_eq_true_eq] at h
  exact ⟨h.1.1.1, h.1.1.2, h.1.2.1, h.1.2.2, h.2⟩
theorem lkA_cons {lo : Int} {x : Lk} {l : List Lk} (h1 : lo < x.s) (h2 : x.s ≤ 7) (h3 : 1 ≤ x.o) (h4 : x.o ≤ 99) (h : lkA x.s l = true) : lkA lo (x :: l) = true := by
  rw [lkA, decide_eq_true ⟨h1, h2⟩, decide_eq_true ⟨h3, h4⟩, h]; rfl
theorem lkA_low {lo lo' : Int} {l : List Lk} (h : lkA lo l = true) (hl : lo' ≤ lo) : lkA lo' l = true := by
  cases l with
  | nil => rfl
  | cons x l =>
    obtain ⟨h1, h2, h3, h4, h5⟩ := lkA_head h
    exact lkA_cons (by omega) h2 h3 h4 h5
theorem lkA_mem {lo : Int} {l : List Lk} (h : lkA lo l = true) : ∀ x ∈ l, lo < x.s ∧ x.s ≤ 7 ∧ 1 ≤ x.o ∧ x.o ≤ 99 := by
  induction l generalizing lo with
  | nil => simp
  | cons y l ih =>
    obtain ⟨h1, h2, h3, h4, h5⟩ := lkA_head h
    intro x hx
    rcases List.mem_cons.1 hx with rfl | hx
    · exact ⟨h1, h2, h3, h4⟩
    · have := ih h5 x hx; omega
theorem lkA_len {lo : Int} {l : List Lk} (h : lkA lo l = true) (hlo : lo ≤ 7) : (l.length : Int) ≤ 7 - lo := by
  induction l generalizing lo with
  | nil => simp; omega
  | cons y l ih =>
    obtain ⟨h1, h2, _, _, h5⟩ := lkA_head h
    have := ih h5 h2
    simp; omega

/-- Who holds a stripe, or 0. -/
def ownerOf : List Lk → Int → Int
  | [], _ => 0
  | x :: r, s => if x.s = s then x.o else ownerOf r s
theorem own_low {lo : Int} {l : List Lk} (h : lkA lo l = true) {s : Int} (hs : s ≤ lo) : ownerOf l s = 0 := by
  induction l generalizing lo with
  | nil => rfl
  | cons y l ih =>
    obtain ⟨h1, _, _, _, h5⟩ := lkA_head h
    rw [ownerOf, if_neg (by omega), ih h5 (by omega)]
theorem own_mem {lo : Int} {l : List Lk} (h : lkA lo l = true) {x : Lk} (hx : x ∈ l) : ownerOf l x.s = x.o := by
  induction l generalizing lo with
  | nil => simp at hx
  | cons y l ih =>
    obtain ⟨h1, _, _, _, h5⟩ := lkA_head h
    rw [ownerOf]
    rcases List.mem_cons.1 hx with rfl | hx
    · rw [if_pos rfl]
    · have := (lkA_mem h5 x hx).1
      rw [if_neg (by omega), ih h5 hx]
theorem own_some {l : List Lk} {s : Int} (h : ownerOf l s ≠ 0) : ⟨s, ownerOf l s⟩ ∈ l := by
  induction l with
  | nil => exact absurd rfl h
  | cons y l ih =>
    rw [ownerOf] at h ⊢
    split
    · rename_i e
      subst e
      exact List.mem_cons_self
    · rename_i e
      rw [if_neg e] at h
      exact List.mem_cons_of_mem _ (ih h)
theorem own_range {lo : Int} {l : List Lk} (h : lkA lo l = true) (s : Int) : ownerOf l s = 0 ∨ (lo < s ∧ s ≤ 7 ∧ 1 ≤ ownerOf l s ∧ ownerOf l s ≤ 99) := by
  by_cases h0 : ownerOf l s = 0
  · exact .inl h0
  · exact .inr (lkA_mem h _ (own_some h0))
/-- Valid locks are told by who holds what. -/
theorem lk_ext {lo lo' : Int} {l l' : List Lk} (h : lkA lo l = true) (h' : lkA lo' l' = true) (he : ∀ s, ownerOf l s = ownerOf l' s) : l = l' := by
  induction l generalizing lo lo' l' with
  | nil =>
    cases l' with
    | nil => rfl
    | cons y r =>
      obtain ⟨_, _, h3, _, _⟩ := lkA_head h'
      have := he y.s
      rw [ownerOf, ownerOf, if_pos rfl] at this
      omega
  | cons x l ih =>
    obtain ⟨a1, a2, a3, a4, a5⟩ := lkA_head h
    cases l' with
    | nil =>
      have := he x.s
      rw [ownerOf, ownerOf, if_pos rfl] at this
      omega
    | cons y r =>
      obtain ⟨b1, b2, b3, b4, b5⟩ := lkA_head h'
      have e1 := he x.s
      have e2 := he y.s
      have hs : x.s = y.s := by
        rcases (by omega : x.s < y.s ∨ x.s = y.s ∨ y.s < x.s) with q | q | q
        · rw [ownerOf, if_pos rfl, ownerOf, if_neg (by omega), own_low b5 (by omega)] at e1; omega
        · exact q
        · rw [ownerOf, if_neg (by omega), own_low a5 (by omega), ownerOf, if_pos rfl] at e2; omega
      have ho : x.o = y.o := by
        rw [ownerOf, if_pos rfl, ownerOf, if_pos hs.symm] at e1; exact e1
      have hxy : x = y := by cases x; cases y; simp_all
      subst hxy
      congr 1
      refine ih a5 b5 fun s => ?_
      rcases (by omega : s ≤ x.s ∨ x.s < s) with q | q
      · rw [own_low a5 q, own_low b5 q]
      · have := he s
        rwa [ownerOf, if_neg (by omega), ownerOf, if_neg (by omega)] at this

/-- The locks of the stripes s, s + 1, .. -/
def locksFrom (h : Int → Int) : Nat → Int → List Lk
  | 0, _ => []
  | n + 1, s => if h s = 0 then locksFrom h n (s + 1) else ⟨s, h s⟩ :: locksFrom h n (s + 1)
theorem locksFrom_snoc (h : Int → Int) (n : Nat) (s : Int) : locksFrom h (n + 1) s = locksFrom h n s ++ (if h (s + n) = 0 then [] else [⟨s + n, h (s + n)⟩]) := by
  induction n generalizing s with
  | zero => simp [locksFrom]
  | succ n ih =>
    rw [locksFrom, ih, show s + 1 + (n : Int) = s + ((n + 1 : Nat) : Int) by omega]
    conv => rhs; rw [locksFrom]
    split <;> rfl
theorem own_locks (h : Int → Int) (n : Nat) (s t : Int) : ownerOf (locksFrom h n s) t = if s ≤ t ∧ t < s + n then h t else 0 := by
  induction n generalizing s with
  | zero => rw [if_neg (by omega)]; rfl
  | succ n ih =>
    rw [locksFrom]
    split
    · rename_i h0
      rw [ih]
      rcases (by omega : t = s ∨ t ≠ s) with q | q
      · subst q; rw [if_neg (by omega), if_pos (by omega), h0]
      · by_cases q1 : s + 1 ≤ t ∧ t < s + 1 + n
        · rw [if_pos q1, if_pos (by omega)]
        · rw [if_neg q1, if_neg (by omega)]
    · show (if s = t then h s else ownerOf (locksFrom h n (s + 1)) t) = _
      rw [ih]
      rcases (by omega : t = s ∨ t ≠ s) with q | q
      · subst q; rw [if_pos rfl, if_pos (by omega)]
      · rw [if_neg (by omega)]
        by_cases q1 : s + 1 ≤ t ∧ t < s + 1 + n
        · rw [if_pos q1, if_pos (by omega)]
        · rw [if_neg q1, if_neg (by omega)]
theorem locks_valid (h : Int → Int) (hh : ∀ s, h s = 0 ∨ (1 ≤ h s ∧ h s ≤ 99)) (n : Nat) (s : Int) (hs : s + n ≤ 8) {lo : Int} (hl : lo < s) : lkA lo (locksFrom h n s) = true := by
  induction n generalizing s lo with
  | zero => rfl
  | succ n ih =>
    rw [locksFrom]
    split
    · exact ih (s + 1) (by omega) (by omega)
    · rename_i h0
      have := (hh s).resolve_left h0
      exact lkA_cons hl (by show s ≤ 7; omega) this.1 this.2 (ih (s + 1) (by omega) (by show s < s + 1; omega))
def locksOf (h : Int → Int) : List Lk := locksFrom h 8 0
/-- Locks are those of who holds what. -/
theorem locks_eq {h : Int → Int} {l : List Lk} (hh : ∀ s, h s = 0 ∨ (1 ≤ h s ∧ h s ≤ 99)) (hl : lkA (-1) l = true) (he : ∀ s, 0 ≤ s → s ≤ 7 → h s = ownerOf l s) : locksOf h = l := by
  refine lk_ext (locks_valid h hh 8 0 (by omega) (lo := -1) (by omega)) hl fun s => ?_
  show ownerOf (locksFrom h 8 0) s = _
  rw [own_locks]
  by_cases q : 0 ≤ s ∧ s < 0 + ((8 : Nat) : Int)
  · rw [if_pos q, he s q.1 (by omega)]
  · rw [if_neg q]
    rcases own_range hl s with q1 | q1
    · exact q1.symm
    · omega

/-- Locks with another one. -/
def insL (x : Lk) : List Lk → List Lk
  | [] => [x]
  | y :: r => if x.s ≤ y.s then (if y.s = x.s then x :: r else x :: y :: r) else y :: insL x r
theorem own_ins {lo : Int} {x : Lk} {l : List Lk} (h : lkA lo l = true) (s : Int) : ownerOf (insL x l) s = if s = x.s then x.o else ownerOf l s := by
  induction l generalizing lo with
  | nil => simp only [insL, ownerOf, eq_comm]
  | cons y l ih =>
    obtain ⟨a1, a2, a3, a4, a5⟩ := lkA_head h
    rw [insL]
    split
    · split
      · rename_i e
        rw [ownerOf, ownerOf]
        by_cases q : s = x.s
        · rw [if_pos q.symm, if_pos q]
        · rw [if_neg (fun e => q e.symm), if_neg q, if_neg (by omega)]
      · rw [ownerOf]
        by_cases q : s = x.s
        · rw [if_pos q.symm, if_pos q]
        · rw [if_neg (fun e => q e.symm), if_neg q]
    · rw [ownerOf, ih a5, ownerOf]
      by_cases q : y.s = s
      · rw [if_pos q, if_neg (by omega), if_pos q]
      · rw [if_neg q, if_neg q]
theorem ins_valid {lo : Int} {x : Lk} {l : List Lk} (h : lkA lo l = true) (h1 : lo < x.s) (h2 : x.s ≤ 7) (h3 : 1 ≤ x.o) (h4 : x.o ≤ 99) : lkA lo (insL x l) = true := by
  induction l generalizing lo with
  | nil => exact lkA_cons h1 h2 h3 h4 rfl
  | cons y l ih =>
    obtain ⟨a1, a2, a3, a4, a5⟩ := lkA_head h
    rw [insL]
    split
    · split
      · rename_i e; exact lkA_cons h1 h2 h3 h4 (e ▸ a5)
      · exact lkA_cons h1 h2 h3 h4 (lkA_cons (by omega) a2 a3 a4 a5)
    · exact lkA_cons a1 a2 a3 a4 (ih a5 (by omega))
theorem ins_end {x : Lk} {l : List Lk} (h : ∀ y ∈ l, y.s < x.s) : insL x l = l ++ [x] := by
  induction l with
  | nil => rfl
  | cons y r ih =>
    have := h y (by simp)
    rw [insL, if_neg (by omega), ih (fun z hz => h z (by simp [hz]))]
    rfl
theorem ins_app {x : Lk} {l r : List Lk} (h : ∃ y ∈ l, x.s ≤ y.s) : insL x (l ++ r) = insL x l ++ r := by
  induction l with
  | nil => simp at h
  | cons y l ih =>
    rw [List.cons_append, insL, insL]
    split
    · split <;> rfl
    · rename_i hge
      rw [ih, List.cons_append]
      obtain ⟨z, hz, hlt⟩ := h
      rcases List.mem_cons.1 hz with rfl | hz
      · exact absurd hlt hge
      · exact ⟨z, hz, hlt⟩

/-- Taking stripes. -/
def takeL (l : List Lk) (o : Int) (ss : List Int) : List Lk := ss.foldl (fun l s => insL ⟨s, o⟩ l) l
theorem takeL_snoc (l : List Lk) (o : Int) (ss : List Int) (s : Int) : takeL l o (ss ++ [s]) = insL ⟨s, o⟩ (takeL l o ss) := by simp [takeL]
theorem take_valid {l : List Lk} {o : Int} (h : lkA (-1) l = true) (ho : 1 ≤ o ∧ o ≤ 99) (ss : List Int) (hs : ∀ s ∈ ss, 0 ≤ s ∧ s ≤ 7) : lkA (-1) (takeL l o ss) = true ∧ ∀ s, ownerOf (takeL l o ss) s = if s ∈ ss then o else ownerOf l s := by
  induction ss generalizing l with
  | nil => exact ⟨h, fun s => by simp [takeL]⟩
  | cons a ss ih =>
    have ha := hs a (by simp)
    have hv : lkA (-1) (insL ⟨a, o⟩ l) = true := ins_valid h (by show -1 < a; omega) ha.2 ho.1 ho.2
    obtain ⟨i1, i2⟩ := ih hv (fun s hm => hs s (by simp [hm]))
    refine ⟨i1, fun s => ?_⟩
    have := i2 s
    show ownerOf (takeL (insL ⟨a, o⟩ l) o ss) s = _
    rw [this, own_ins h]
    by_cases q : s ∈ ss
    · rw [if_pos q, if_pos (by simp [q])]
    · rw [if_neg q]
      by_cases q1 : s = a
      · rw [if_pos q1, if_pos (by simp [q1])]
      · rw [if_neg q1, if_neg (by simp [q, q1])]
/-- Who holds what when stripes are taken. -/
def heldT (l : List Lk) (o : Int) (ss : List Int) (s : Int) : Int := if s ∈ ss then o else ownerOf l s
theorem held_take {l : List Lk} {o : Int} {ss : List Int} (h : lkA (-1) l = true) (ho : 1 ≤ o ∧ o ≤ 99) (hs : ∀ s ∈ ss, 0 ≤ s ∧ s ≤ 7) : locksOf (heldT l o ss) = takeL l o ss := by
  obtain ⟨h1, h2⟩ := take_valid h ho ss hs
  refine locks_eq (fun s => ?_) h1 fun s _ _ => (h2 s).symm
  rw [heldT]
  split
  · exact .inr ho
  · rcases own_range h s with q | q
    · exact .inl q
    · exact .inr q.2.2

/-- Giving back. -/
def giveL (l : List Lk) (o : Int) : List Lk := l.filter fun x => !(x.o == o)
theorem give_valid {lo : Int} {l : List Lk} (h : lkA lo l = true) (o : Int) : lkA lo (giveL l o) = true := by
  induction l generalizing lo with
  | nil => rfl
  | cons y l ih =>
    obtain ⟨a1, a2, a3, a4, a5⟩ := lkA_head h
    rw [giveL, List.filter_cons]
    split
    · exact lkA_cons a1 a2 a3 a4 (ih a5)
    · exact lkA_low (ih a5) (by omega)
theorem own_give {lo : Int} {l : List Lk} (h : lkA lo l = true) (o s : Int) : ownerOf (giveL l o) s = if ownerOf l s = o then 0 else ownerOf l s := by
  induction l generalizing lo with
  | nil => show (0 : Int) = if (0 : Int) = o then 0 else 0; split <;> rfl
  | cons y l ih =>
    obtain ⟨a1, a2, a3, a4, a5⟩ := lkA_head h
    rw [giveL, List.filter_cons]
    by_cases q : y.o = o
    · rw [if_neg (by simp [q])]
      show ownerOf (giveL l o) s = _
      rw [ih a5, ownerOf]
      by_cases q1 : y.s = s
      · rw [if_pos q1, if_pos q, own_low a5 (by omega)]
        split <;> rfl
      · rw [if_neg q1]
    · rw [if_pos (by simp [q])]
      show ownerOf (y :: giveL l o) s = _
      rw [ownerOf, ownerOf]
      by_cases q1 : y.s = s
      · rw [if_pos q1, if_pos q1, if_neg q]
      · rw [if_neg q1, if_neg q1, ih a5]
def heldG (l : List Lk) (o : Int) (s : Int) : Int := if ownerOf l s = o then 0 else ownerOf l s
theorem held_give {l : List Lk} {o : Int} (h : lkA (-1) l = true) : locksOf (heldG l o) = giveL l o := by
  refine locks_eq (fun s => ?_) (give_valid h o) fun s _ _ => (own_give h o s).symm
  rw [heldG]
  split
  · exact .inl rfl
  · rcases own_range h s with q | q
    · exact .inl q
    · exact .inr q.2.2

/-- Whether stripes are free. -/
def freeS (l : List Lk) (o : Int) (ss : List Int) : Bool := ss.all fun s => decide (ownerOf l s = 0) || decide (ownerOf l s = o)
def freeB (l : List Lk) (o : Int) (ss : List Int) : Bool := lkA (-1) l && (decide (1 ≤ o ∧ o ≤ 99) && (asc (-1) 7 ss && freeS l o ss))
theorem freeB_parts {l : List Lk} {o : Int} {ss : List Int} (h : freeB l o ss = true) : lkA (-1) l = true ∧ (1 ≤ o ∧ o ≤ 99) ∧ asc (-1) 7 ss = true ∧ freeS l o ss = true := by
  simp only [freeB, Bool.and_eq_true, decide_eq_true_eq] at h
  exact ⟨h.1, h.2.1, h.2.2.1, h.2.2.2⟩
theorem freeS_spec {l : List Lk} (h : lkA (-1) l = true) (o : Int) (ss : List Int) : freeS l o ss = l.all fun x => ss.all fun s => !(decide (x.s = s) && !decide (x.o = o)) := by
  rw [Bool.eq_iff_iff, freeS, List.all_eq_true, List.all_eq_true]
  constructor
  · intro hf x hx
    rw [List.all_eq_true]
    intro s hs
    have h1 := hf s hs
    by_cases q : x.s = s
    · subst q
      rw [own_mem h hx] at h1
      have := (lkA_mem h x hx).2.2.1
      simp only [Bool.or_eq_true, decide_eq_true_eq] at h1
      have ho : x.o = o := h1.resolve_left (by omega)
      simp [ho]
    · simp [q]
  · intro hf s hs
    by_cases q : ownerOf l s = 0
    · simp [q]
    · have h1 := List.all_eq_true.1 (hf _ (own_some q)) s hs
      simp at h1
      simp [h1]
end Go.Proofs.Ytcchnkpkdeminaa
