/- Totals: plain lists. -/
import Derived.Test.YtokhkgimmijoaaaOrd
import Derived.Test.YtokhkgimmijoaaaWord
namespace Go.Proofs.Ytokhkgimmijoaaa
open Go.RowKit

/-- A total as data. -/
structure Tot where
  c : ByteArray
  m : Int
  s : Int
def Tot.cells (x : Tot) : List Value := [.string x.c, .int .i64 x.m, .int .i64 x.s]
def totB (x : Tot) : Bool := wordB x.c && (decide (1 ≤ x.m ∧ x.m ≤ 99) && decide (0 ≤ x.s ∧ x.s ≤ x.m * 999))
theorem totB_parts {x : Tot} (h : totB x = true) : wordB x.c = true ∧ (1 ≤ x.m ∧ x.m ≤ 99) ∧ (0 ≤ x.s ∧ x.s ≤ x.m * 999) := by
  simp only [totB, Bool.and_eq_true, decide_eq_true_eq] at h
  exact ⟨h.1, h.2.1, h.2.2⟩
/-- Ascending categories. -/
def ascT (l : List Tot) : Prop := l.Pairwise fun a b => sl a.c b.c = true
def TotsOk (l : List Tot) : Prop := l.length ≤ 24 ∧ (∀ x ∈ l, totB x = true) ∧ ascT l
noncomputable def totsB (l : List Tot) : Bool := @decide (TotsOk l) (Classical.propDecidable _)
theorem totsB_iff {l : List Tot} : totsB l = true ↔ TotsOk l := by simp [totsB]
theorem totsB_no {l : List Tot} (h : ¬ TotsOk l) : totsB l = false := by rw [Bool.eq_false_iff]; exact fun e => h (totsB_iff.1 e)
def TotsTo (l : List Tot) (k : Nat) : Prop := (∀ x ∈ l.take k, totB x = true) ∧ ascT (l.take k)
theorem totsTo_zero (l : List Tot) : TotsTo l 0 := ⟨by simp, by simp [ascT]⟩
theorem totsTo_next {l : List Tot} {k : Nat} (h : TotsTo l k) (hk : k < l.length) (h1 : totB l[k] = true) (h2 : ∀ (_ : 0 < k), sl (l[k - 1]'(by omega)).c l[k].c = true) : TotsTo l (k + 1) := by
  obtain ⟨a, b⟩ := h
  rw [TotsTo, List.take_succ_eq_append_getElem hk]
  refine ⟨fun x hx => ?_, ?_⟩
  · rcases List.mem_append.1 hx with hx | hx
    · exact a x hx
    · simp at hx; rw [hx]; exact h1
  · unfold ascT at b ⊢
    rw [List.pairwise_append]
    refine ⟨b, by simp, fun x hx y hy => ?_⟩
    simp at hy
    subst hy
    obtain ⟨j, hj, rfl⟩ := List.mem_iff_getElem.1 hx
    rw [List.length_take] at hj
    rw [List.getElem_take]
    have h3 := h2 (by omega)
    rcases (by omega : j = k - 1 ∨ j < k - 1) with e | e
    · simp only [e]; exact h3
    · have h4 := List.pairwise_iff_getElem.1 b j (k - 1) (by rw [List.length_take]; omega) (by rw [List.length_take]; omega) e
      rw [List.getElem_take, List.getElem_take] at h4
      exact sl_trans h4 h3
theorem totsTo_all {l : List Tot} (h : TotsTo l l.length) : (∀ x ∈ l, totB x = true) ∧ ascT l := by
  rw [TotsTo, List.take_length] at h; exact h
theorem ascT_at {l : List Tot} (h : ascT l) {j k : Nat} (hj : j < k) (hk : k < l.length) : sl (l[j]'(by omega)).c l[k].c = true :=
  List.pairwise_iff_getElem.1 h j k (by omega) hk hj

/-- What a category has: how many, and their sum; 0 and 0 where there is none. -/
def manyOf : List Tot → ByteArray → Int
  | [], _ => 0
  | x :: r, c => if x.c = c then x.m else manyOf r c
def sumOf : List Tot → ByteArray → Int
  | [], _ => 0
  | x :: r, c => if x.c = c then x.s else sumOf r c
theorem many_not {l : List Tot} {c : ByteArray} (h : ∀ x ∈ l, x.c ≠ c) : manyOf l c = 0 ∧ sumOf l c = 0 := by
  induction l with
  | nil => exact ⟨rfl, rfl⟩
  | cons x r ih =>
    have := ih fun y hy => h y (by simp [hy])
    rw [manyOf, sumOf, if_neg (h x (by simp)), if_neg (h x (by simp))]
    exact this
theorem ascT_cons {x : Tot} {l : List Tot} : ascT (x :: l) ↔ (∀ y ∈ l, sl x.c y.c = true) ∧ ascT l := List.pairwise_cons
theorem many_mem {l : List Tot} (h : ascT l) {x : Tot} (hx : x ∈ l) : manyOf l x.c = x.m ∧ sumOf l x.c = x.s := by
  induction l with
  | nil => simp at hx
  | cons y r ih =>
    obtain ⟨h1, h2⟩ := ascT_cons.1 h
    rw [manyOf, sumOf]
    rcases List.mem_cons.1 hx with rfl | hx
    · simp
    · rw [if_neg (sl_ne (h1 x hx)), if_neg (sl_ne (h1 x hx))]
      exact ih h2 hx
/-- Ascending totals of positive numbers are told by what each category has. -/
theorem tot_ext {l l' : List Tot} (h : ascT l) (h' : ascT l') (hp : ∀ x ∈ l, 1 ≤ x.m) (hp' : ∀ x ∈ l', 1 ≤ x.m) (he : ∀ c, manyOf l c = manyOf l' c ∧ sumOf l c = sumOf l' c) : l = l' := by
  induction l generalizing l' with
  | nil =>
    cases l' with
    | nil => rfl
    | cons y r =>
      have := (he y.c).1
      have := hp' y (by simp)
      simp [manyOf] at *
      omega
  | cons x l ih =>
    obtain ⟨a1, a2⟩ := ascT_cons.1 h
    have px := hp x (by simp)
    cases l' with
    | nil =>
      have := (he x.c).1
      simp [manyOf] at this
      omega
    | cons y r =>
      obtain ⟨b1, b2⟩ := ascT_cons.1 h'
      have py := hp' y (by simp)
      have e1 := he x.c
      have e2 := he y.c
      have hs : x.c = y.c := by
        rcases sl_tri x.c y.c with q | q | q
        · have n1 := many_not (l := y :: r) (c := x.c) (fun z hz => by
            rcases List.mem_cons.1 hz with rfl | hz
            · exact (sl_ne q).symm
            · exact (sl_ne (sl_trans q (b1 z hz))).symm)
          rw [n1.1, manyOf, if_pos rfl] at e1
          omega
        · exact q
        · have n1 := many_not (l := x :: l) (c := y.c) (fun z hz => by
            rcases List.mem_cons.1 hz with rfl | hz
            · exact (sl_ne q).symm
            · exact (sl_ne (sl_trans q (a1 z hz))).symm)
          rw [n1.1, manyOf, if_pos rfl] at e2
          omega
      have hxy : x = y := by
        rw [manyOf, manyOf, sumOf, sumOf, if_pos rfl, if_pos hs.symm, if_pos rfl, if_pos hs.symm] at e1
        cases x; cases y; simp_all
      subst hxy
      congr 1
      refine ih a2 b2 (fun z hz => hp z (by simp [hz])) (fun z hz => hp' z (by simp [hz])) fun c => ?_
      by_cases q : x.c = c
      · subst q
        have n1 := many_not (l := l) (c := x.c) fun z hz => (sl_ne (a1 z hz)).symm
        have n2 := many_not (l := r) (c := x.c) fun z hz => (sl_ne (b1 z hz)).symm
        exact ⟨n1.1.trans n2.1.symm, n1.2.trans n2.2.symm⟩
      · have := he c
        rwa [manyOf, manyOf, sumOf, sumOf, if_neg q, if_neg q, if_neg q, if_neg q] at this

def both (x y : Tot) : Tot := ⟨x.c, x.m + y.m, x.s + y.s⟩
/-- Two ascending lists as one. -/
def mergeT : List Tot → List Tot → List Tot
  | [], b => b
  | x :: a, [] => x :: a
  | x :: a, y :: b => if sl x.c y.c then x :: mergeT a (y :: b) else if sl y.c x.c then y :: mergeT (x :: a) b else both x y :: mergeT a b
theorem mergeT_nil (a : List Tot) : mergeT a [] = a := by cases a <;> simp [mergeT]
theorem manyOf_ne {y : Tot} {a : List Tot} {c : ByteArray} (q : y.c ≠ c) : manyOf (y :: a) c = manyOf a c := by rw [manyOf, if_neg q]
theorem sumOf_ne {y : Tot} {a : List Tot} {c : ByteArray} (q : y.c ≠ c) : sumOf (y :: a) c = sumOf a c := by rw [sumOf, if_neg q]
/-- Totals with another one added. -/
def insT (t : Tot) : List Tot → List Tot
  | [] => [t]
  | x :: r => if x.c = t.c then both x t :: r else if sl t.c x.c then t :: x :: r else x :: insT t r

theorem ins_mem {t : Tot} {l : List Tot} {x : Tot} (h : x ∈ insT t l) : x.c = t.c ∨ x ∈ l := by
  induction l with
  | nil => simp [insT] at h; exact .inl (by rw [h])
  | cons y r ih =>
    rw [insT] at h
    split at h
    · rename_i e
      rcases List.mem_cons.1 h with h | h
      · exact .inl (by rw [h]; exact e)
      · exact .inr (by simp [h])
    · split at h
      · rcases List.mem_cons.1 h with h | h
        · exact .inl (by rw [h])
        · exact .inr h
      · rcases List.mem_cons.1 h with h | h
        · exact .inr (by simp [h])
        · exact (ih h).imp id fun h => by simp [h]
theorem ins_asc {t : Tot} {l : List Tot} (h : ascT l) : ascT (insT t l) := by
  induction l with
  | nil => simp [insT, ascT]
  | cons y r ih =>
    obtain ⟨h1, h2⟩ := ascT_cons.1 h
    rw [insT]
    split
    · exact ascT_cons.2 ⟨h1, h2⟩
    · rename_i hne
      split
      · rename_i hl
        refine ascT_cons.2 ⟨fun z hz => ?_, h⟩
        rcases List.mem_cons.1 hz with rfl | hz
        · exact hl
        · exact sl_trans hl (h1 z hz)
      · rename_i hl
        refine ascT_cons.2 ⟨fun z hz => ?_, ih h2⟩
        rcases ins_mem hz with e | e
        · rw [e]
          rcases sl_tri y.c t.c with q | q | q
          · exact q
          · exact absurd q hne
          · exact absurd q hl
        · exact h1 z e
theorem ins_pos {t : Tot} {l : List Tot} (h : ∀ x ∈ l, 1 ≤ x.m) (ht : 1 ≤ t.m) : ∀ x ∈ insT t l, 1 ≤ x.m := by
  induction l with
  | nil => simp [insT, ht]
  | cons y r ih =>
    have hy := h y (by simp)
    have hr := ih fun z hz => h z (by simp [hz])
    rw [insT]
    intro x hx
    split at hx
    · rcases List.mem_cons.1 hx with rfl | hx
      · show 1 ≤ y.m + t.m; omega
      · exact h x (by simp [hx])
    · split at hx
      · rcases List.mem_cons.1 hx with rfl | hx
        · exact ht
        · exact h x hx
      · rcases List.mem_cons.1 hx with rfl | hx
        · exact hy
        · exact hr x hx
theorem ins_of {t : Tot} {l : List Tot} (h : ascT l) (c : ByteArray) : manyOf (insT t l) c = manyOf l c + (if t.c = c then t.m else 0) ∧ sumOf (insT t l) c = sumOf l c + (if t.c = c then t.s else 0) := by
  induction l with
  | nil => simp [insT, manyOf, sumOf]
  | cons y r ih =>
    obtain ⟨h1, h2⟩ := ascT_cons.1 h
    rw [insT]
    split
    · rename_i e
      simp only [manyOf, sumOf, both, e]
      split <;> simp
    · rename_i hne
      split
      · rename_i hl
        have n1 := many_not (l := y :: r) (c := t.c) (fun z hz => by
          rcases List.mem_cons.1 hz with rfl | hz
          · exact (sl_ne hl).symm
          · exact (sl_ne (sl_trans hl (h1 z hz))).symm)
        rw [manyOf, sumOf]
        by_cases q : t.c = c
        · subst q; rw [n1.1, n1.2]; simp
        · simp [q]
      · have := ih h2
        rw [manyOf, sumOf, manyOf, sumOf]
        by_cases q : y.c = c
        · rw [if_pos q, if_pos q, if_pos q, if_pos q, if_neg (fun e => hne (q.trans e.symm)), if_neg (fun e => hne (q.trans e.symm))]; simp
        · rw [if_neg q, if_neg q, if_neg q, if_neg q]; exact this

theorem merge_mem {a b : List Tot} {x : Tot} (h : x ∈ mergeT a b) : (∃ y ∈ a, x.c = y.c) ∨ (∃ y ∈ b, x.c = y.c) := by
  induction a, b using mergeT.induct with
  | case1 b => exact .inr ⟨x, by simpa [mergeT] using h, rfl⟩
  | case2 y a => exact .inl ⟨x, by simpa [mergeT] using h, rfl⟩
  | case3 y a z b hl ih =>
    rw [mergeT, if_pos hl] at h
    rcases List.mem_cons.1 h with rfl | h
    · exact .inl ⟨x, by simp, rfl⟩
    · rcases ih h with ⟨u, hu, e⟩ | ⟨u, hu, e⟩
      · exact .inl ⟨u, by simp [hu], e⟩
      · exact .inr ⟨u, hu, e⟩
  | case4 y a z b hl hl2 ih =>
    rw [mergeT, if_neg hl, if_pos hl2] at h
    rcases List.mem_cons.1 h with rfl | h
    · exact .inr ⟨x, by simp, rfl⟩
    · rcases ih h with ⟨u, hu, e⟩ | ⟨u, hu, e⟩
      · exact .inl ⟨u, hu, e⟩
      · exact .inr ⟨u, by simp [hu], e⟩
  | case5 y a z b hl hl2 ih =>
    rw [mergeT, if_neg hl, if_neg hl2] at h
    rcases List.mem_cons.1 h with rfl | h
    · exact .inl ⟨y, by simp, rfl⟩
    · rcases ih h with ⟨u, hu, e⟩ | ⟨u, hu, e⟩
      · exact .inl ⟨u, by simp [hu], e⟩
      · exact .inr ⟨u, by simp [hu], e⟩
theorem merge_props {a b : List Tot} (ha : ascT a) (hb : ascT b) (pa : ∀ x ∈ a, 1 ≤ x.m) (pb : ∀ x ∈ b, 1 ≤ x.m) :
    ascT (mergeT a b) ∧ (∀ x ∈ mergeT a b, 1 ≤ x.m) ∧ (mergeT a b).length ≤ a.length + b.length ∧ ∀ c, manyOf (mergeT a b) c = manyOf a c + manyOf b c ∧ sumOf (mergeT a b) c = sumOf a c + sumOf b c := by
  induction a, b using mergeT.induct with
  | case1 b => exact ⟨by simpa [mergeT] using hb, by simpa [mergeT] using pb, by simp [mergeT], fun c => by simp [mergeT, manyOf, sumOf]⟩
  | case2 y a => exact ⟨by simpa [mergeT] using ha, by simpa [mergeT] using pa, by simp [mergeT], fun c => by simp [mergeT, manyOf, sumOf]⟩
  | case3 y a z b hl ih =>
    obtain ⟨a1, a2⟩ := ascT_cons.1 ha
    obtain ⟨b1, b2⟩ := ascT_cons.1 hb
    obtain ⟨i1, i2, i3, i4⟩ := ih a2 hb (fun x hx => pa x (by simp [hx])) pb
    rw [mergeT, if_pos hl]
    refine ⟨ascT_cons.2 ⟨fun x hx => ?_, i1⟩, fun x hx => ?_, by simp at i3 ⊢; omega, fun c => ?_⟩
    · rcases merge_mem hx with ⟨u, hu, e⟩ | ⟨u, hu, e⟩
      · rw [e]; exact a1 u hu
      · rw [e]
        rcases List.mem_cons.1 hu with rfl | hu
        · exact hl
        · exact sl_trans hl (b1 u hu)
    · rcases List.mem_cons.1 hx with rfl | hx
      · exact pa x (by simp)
      · exact i2 x hx
    · have := i4 c
      rw [manyOf, sumOf]
      by_cases q : y.c = c
      · subst q
        have n1 := many_not (l := z :: b) (c := y.c) (fun u hu => by
          rcases List.mem_cons.1 hu with rfl | hu
          · exact (sl_ne hl).symm
          · exact (sl_ne (sl_trans hl (b1 u hu))).symm)
        rw [n1.1, n1.2, manyOf, sumOf]; simp
      · rw [if_neg q, if_neg q, this.1, this.2]
        rw [manyOf_ne (y := y) (a := a) q, sumOf_ne (y := y) (a := a) q]
        exact ⟨rfl, rfl⟩
  | case4 y a z b hl hl2 ih =>
    obtain ⟨a1, a2⟩ := ascT_cons.1 ha
    obtain ⟨b1, b2⟩ := ascT_cons.1 hb
    obtain ⟨i1, i2, i3, i4⟩ := ih ha b2 pa (fun x hx => pb x (by simp [hx]))
    rw [mergeT, if_neg hl, if_pos hl2]
    refine ⟨ascT_cons.2 ⟨fun x hx => ?_, i1⟩, fun x hx => ?_, by simp at i3 ⊢; omega, fun c => ?_⟩
    · rcases merge_mem hx with ⟨u, hu, e⟩ | ⟨u, hu, e⟩
      · rw [e]
        rcases List.mem_cons.1 hu with rfl | hu
        · exact hl2
        · exact sl_trans hl2 (a1 u hu)
      · rw [e]; exact b1 u hu
    · rcases List.mem_cons.1 hx with rfl | hx
      · exact pb x (by simp)
      · exact i2 x hx
    · have := i4 c
      rw [manyOf, sumOf]
      by_cases q : z.c = c
      · subst q
        have n1 := many_not (l := y :: a) (c := z.c) (fun u hu => by
          rcases List.mem_cons.1 hu with rfl | hu
          · exact (sl_ne hl2).symm
          · exact (sl_ne (sl_trans hl2 (a1 u hu))).symm)
        rw [n1.1, n1.2, manyOf, sumOf]; simp
      · rw [if_neg q, if_neg q, this.1, this.2]
        rw [manyOf_ne (y := z) (a := b) q, sumOf_ne (y := z) (a := b) q]
        exact ⟨rfl, rfl⟩
  | case5 y a z b hl hl2 ih =>
    obtain ⟨a1, a2⟩ := ascT_cons.1 ha
    obtain ⟨b1, b2⟩ := ascT_cons.1 hb
    obtain ⟨i1, i2, i3, i4⟩ := ih a2 b2 (fun x hx => pa x (by simp [hx])) (fun x hx => pb x (by simp [hx]))
    have hyz : y.c = z.c := by
      rcases sl_tri y.c z.c with q | q | q
      · exact absurd q hl
      · exact q
      · exact absurd q hl2
    rw [mergeT, if_neg hl, if_neg hl2]
    refine ⟨ascT_cons.2 ⟨fun x hx => ?_, i1⟩, fun x hx => ?_, by simp at i3 ⊢; omega, fun c => ?_⟩
    · show sl y.c x.c = true
      rcases merge_mem hx with ⟨u, hu, e⟩ | ⟨u, hu, e⟩
      · rw [e]; exact a1 u hu
      · rw [e, hyz]; exact b1 u hu
    · rcases List.mem_cons.1 hx with rfl | hx
      · have := pa y (by simp); have := pb z (by simp); show 1 ≤ y.m + z.m; omega
      · exact i2 x hx
    · have := i4 c
      simp only [manyOf, sumOf, both, ← hyz]
      by_cases q : y.c = c
      · simp [q]
      · simp [q, this]
/-- Adding one after another is the same. -/
theorem merge_fold {a b : List Tot} (ha : ascT a) (hb : ascT b) (pa : ∀ x ∈ a, 1 ≤ x.m) (pb : ∀ x ∈ b, 1 ≤ x.m) : b.foldl (fun l t => insT t l) a = mergeT a b := by
  obtain ⟨m1, m2, _, m4⟩ := merge_props ha hb pa pb
  have key : ∀ (b a : List Tot), ascT a → (∀ x ∈ a, 1 ≤ x.m) → (∀ x ∈ b, 1 ≤ x.m) → ascT b → ascT (b.foldl (fun l t => insT t l) a) ∧ (∀ x ∈ b.foldl (fun l t => insT t l) a, 1 ≤ x.m) ∧ ∀ c, manyOf (b.foldl (fun l t => insT t l) a) c = manyOf a c + manyOf b c ∧ sumOf (b.foldl (fun l t => insT t l) a) c = sumOf a c + sumOf b c := by
    intro b
    induction b with
    | nil => intro a h1 h2 _ _; exact ⟨h1, h2, fun c => by simp [manyOf, sumOf]⟩
    | cons t b ih =>
      intro a h1 h2 h3 h4
      obtain ⟨b1, b2⟩ := ascT_cons.1 h4
      obtain ⟨i1, i2, i3⟩ := ih (insT t a) (ins_asc h1) (ins_pos h2 (h3 t (by simp))) (fun x hx => h3 x (by simp [hx])) b2
      refine ⟨i1, i2, fun c => ?_⟩
      rw [List.foldl_cons, (i3 c).1, (i3 c).2, (ins_of h1 c).1, (ins_of h1 c).2, manyOf, sumOf]
      by_cases q : t.c = c
      · subst q
        have n1 := many_not (l := b) (c := t.c) fun u hu => (sl_ne (b1 u hu)).symm
        simp [n1.1, n1.2]
      · simp [q]
  obtain ⟨k1, k2, k3⟩ := key b a ha pa pb hb
  exact tot_ext k1 m1 k2 m2 fun c => ⟨(k3 c).1.trans (m4 c).1.symm, (k3 c).2.trans (m4 c).2.symm⟩
theorem merge_comm {a b : List Tot} (ha : ascT a) (hb : ascT b) (pa : ∀ x ∈ a, 1 ≤ x.m) (pb : ∀ x ∈ b, 1 ≤ x.m) : mergeT a b = mergeT b a := by
  obtain ⟨m1, m2, _, m4⟩ := merge_props ha hb pa pb
  obtain ⟨n1, n2, _, n4⟩ := merge_props hb ha pb pa
  exact tot_ext m1 n1 m2 n2 fun c => ⟨by rw [(m4 c).1, (n4 c).1, Int.add_comm], by rw [(m4 c).2, (n4 c).2, Int.add_comm]⟩
end Go.Proofs.Ytokhkgimmijoaaa
