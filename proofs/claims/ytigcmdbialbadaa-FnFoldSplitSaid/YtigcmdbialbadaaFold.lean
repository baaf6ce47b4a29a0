/- Folds: what is valid, in impl and in spec. -/
import Derived.Test.YtigcmdbialbadaaWord
namespace Go.Proofs.Ytigcmdbialbadaa
open Go.RowKit

/-- A fold as data. -/
structure Fd where
  v : Int
  s : Int
  t : ByteArray
def Fd.cells (x : Fd) : Array Value := #[.int .i64 x.v, .int .i64 x.s, .string x.t]
def fdB (v s : Int) (t : ByteArray) : Bool :=
  (decide (v = -1) && (decide (s = 0) && decide (t.size = 0))) || (decide (0 ≤ v ∧ v ≤ 23) && (decide (0 ≤ s ∧ s ≤ (v + 1) * 999) && wordB t))
theorem fdB_none (s : Int) (t : ByteArray) : fdB (-1) s t = (decide (s = 0) && decide (t.size = 0)) := by simp [fdB]
theorem fdB_ver {v : Int} (s : Int) (t : ByteArray) (h : v ≠ -1) (h1 : v < 0 ∨ 23 < v) : fdB v s t = false := by
  simp only [fdB, decide_eq_false h, decide_eq_false (show ¬ (0 ≤ v ∧ v ≤ 23) by omega), Bool.false_and, Bool.or_false]
theorem fdB_sum {v s : Int} (t : ByteArray) (h : 0 ≤ v) (h1 : s < 0 ∨ (v + 1) * 999 < s) : fdB v s t = false := by
  simp only [fdB, decide_eq_false (show ¬ v = -1 by omega), decide_eq_false (show ¬ (0 ≤ s ∧ s ≤ (v + 1) * 999) by omega), Bool.false_and, Bool.and_false, Bool.or_false]
theorem fdB_word {v s : Int} (t : ByteArray) (h : 0 ≤ v) (h' : v ≤ 23) (h1 : 0 ≤ s) (h2 : s ≤ (v + 1) * 999) : fdB v s t = wordB t := by
  simp only [fdB, decide_eq_false (show ¬ v = -1 by omega), decide_eq_true (show (0 ≤ v ∧ v ≤ 23) by omega), decide_eq_true (show (0 ≤ s ∧ s ≤ (v + 1) * 999) by omega), Bool.false_and, Bool.true_and, Bool.false_or]

set_option maxHeartbeats 1000000 in
theorem fv_any (v s : Int) (t : ByteArray) (w : World) (hs : t.size ≤ maxLen) :
    Calls Try.prog 10 #[.agg #[.int .i64 v, .int .i64 s, .string t]] w fun e w' => e = .returned (.bool (fdB v s t)) ∧ w.grownBy w' none := by
  rcases (by omega : v = -1 ∨ (v ≠ -1 ∧ (v < 0 ∨ 23 < v)) ∨ (0 ≤ v ∧ v ≤ 23)) with h1 | ⟨h1, h2⟩ | ⟨h1, h2⟩
  · subst h1
    rw [fdB_none]
    rcases (by omega : s = 0 ∨ s ≠ 0) with q | q
    · subst q
      rcases (by omega : t.size = 0 ∨ 1 ≤ t.size) with r | r
      · have e0 := size0 t r
        rw [decide_eq_true r]
        clear r
        go_enter Try.func10, Try.ntmps10
        go_wp2_with fail
        go_ret
        exact ⟨rfl, gr_alloc (gr_refl _ _) _⟩
      · have e0 := size1 t r
        rw [decide_eq_false (show ¬ t.size = 0 by omega)]
        clear r
        go_enter Try.func10, Try.ntmps10
        go_wp2_with fail
        go_ret
        exact ⟨rfl, gr_alloc (gr_refl _ _) _⟩
    · have q1 : (s == 0) = false := by simpa using q
      rw [decide_eq_false q]
      clear q
      go_enter Try.func10, Try.ntmps10
      go_wp2_with fail
      go_ret
      exact ⟨rfl, gr_alloc (gr_refl _ _) _⟩
  · rw [fdB_ver s t h1 h2]
    have h1' : (v == -1) = false := by simpa using h1
    clear h1
    rcases h2 with h2 | h2
    · go_enter Try.func10, Try.ntmps10
      go_wp2_with fail
      go_ret
      exact ⟨rfl, gr_alloc (gr_refl _ _) _⟩
    · have h3 : 0 ≤ v := by omega
      go_enter Try.func10, Try.ntmps10
      go_wp2_with fail
      go_ret
      exact ⟨rfl, gr_alloc (gr_refl _ _) _⟩
  · have h1' : (v == -1) = false := by simp; omega
    rcases (by omega : s < 0 ∨ (0 ≤ s ∧ (v + 1) * 999 < s) ∨ (0 ≤ s ∧ s ≤ (v + 1) * 999)) with q | ⟨q, q'⟩ | ⟨q, q'⟩
    · rw [fdB_sum t h1 (.inl q)]
      go_enter Try.func10, Try.ntmps10
      go_wp2_with fail
      go_ret
      exact ⟨rfl, gr_alloc (gr_refl _ _) _⟩
    · rw [fdB_sum t h1 (.inr q')]
      go_enter Try.func10, Try.ntmps10
      go_wp2_with fail
      go_ret
      exact ⟨rfl, gr_alloc (gr_refl _ _) _⟩
    · rw [fdB_word t h1 h2 q q']
      have e1 := fun w => word_any t w hs
      go_enter Try.func10, Try.ntmps10
      go_wp2_with fail
      refine (e1 _).mono ?_
      rintro e w1 ⟨rfl, rfl⟩
      go_wp2_with fail
      go_ret
      exact ⟨rfl, gr_alloc (gr_refl _ _) _⟩

theorem fv_is (v s : Int) (t : ByteArray) (b : Bool) (w : World) (hs : t.size ≤ maxLen) (h : fdB v s t = b) :
    Calls Try.prog 10 #[.agg #[.int .i64 v, .int .i64 s, .string t]] w fun e w' => e = .returned (.bool b) ∧ w.grownBy w' none := h ▸ fv_any v s t w hs

set_option maxHeartbeats 1000000 in
theorem sfv_any (v s : Int) (t : ByteArray) (w : World) (hs : t.size ≤ maxLen) :
    Calls Try.prog 11 #[.agg #[.int .i64 v, .int .i64 s, .string t]] w fun e w' => e = .returned (.bool (fdB v s t)) ∧ w.grownBy w' none := by
  rcases (by omega : v = -1 ∨ (v ≠ -1 ∧ (v < 0 ∨ 23 < v)) ∨ (0 ≤ v ∧ v ≤ 23)) with h1 | ⟨h1, h2⟩ | ⟨h1, h2⟩
  · subst h1
    rw [fdB_none]
    rcases (by omega : s = 0 ∨ s ≠ 0) with q | q
    · subst q
      rcases (by omega : t.size = 0 ∨ 1 ≤ t.size) with r | r
      · have e0 := size0 t r
        rw [decide_eq_true r]
        clear r
        go_enter Try.func11, Try.ntmps11
        go_wp2_with fail
        go_ret
        exact ⟨rfl, gr_alloc (gr_refl _ _) _⟩
      · have e0 := size1 t r
        rw [decide_eq_false (show ¬ t.size = 0 by omega)]
        clear r
        go_enter Try.func11, Try.ntmps11
        go_wp2_with fail
        go_ret
        exact ⟨rfl, gr_alloc (gr_refl _ _) _⟩
    · have q1 : (s == 0) = false := by simpa using q
      rw [decide_eq_false q]
      clear q
      go_enter Try.func11, Try.ntmps11
      go_wp2_with fail
      go_ret
      exact ⟨rfl, gr_alloc (gr_refl _ _) _⟩
  · rw [fdB_ver s t h1 h2]
    have h1' : (v == -1) = false := by simpa using h1
    have e1 := fun w => in_is v 0 23 false w (inR_false h2)
    clear h1 h2
    go_enter Try.func11, Try.ntmps11
    go_wp2_with fail
    refine (e1 _).mono ?_
    rintro e w1 ⟨rfl, rfl⟩
    go_wp2_with fail
    go_ret
    exact ⟨rfl, gr_alloc (gr_refl _ _) _⟩
  · have h1' : (v == -1) = false := by simp; omega
    rcases (by omega : s < 0 ∨ (0 ≤ s ∧ (v + 1) * 999 < s) ∨ (0 ≤ s ∧ s ≤ (v + 1) * 999)) with q | ⟨q, q'⟩ | ⟨q, q'⟩
    · rw [fdB_sum t h1 (.inl q)]
      have e2 := fun w => in_is v 0 23 true w (inR_true h1 h2)
      have hm : 999 * (v + 1) = (v + 1) * 999 := Int.mul_comm _ _
      have e3 := fun w => in_is s 0 (999 * (v + 1)) false w (by rw [hm]; exact inR_false (.inl q))
      clear hm
      go_enter Try.func11, Try.ntmps11
      go_wp2_with fail
      refine (e2 _).mono ?_
      rintro e w1 ⟨rfl, rfl⟩
      go_wp2_with fail
      refine (e3 _).mono ?_
      rintro e w1 ⟨rfl, rfl⟩
      go_wp2_with fail
      go_ret
      exact ⟨rfl, gr_alloc (gr_refl _ _) _⟩
    · rw [fdB_sum t h1 (.inr q')]
      have e2 := fun w => in_is v 0 23 true w (inR_true h1 h2)
      have hm : 999 * (v + 1) = (v + 1) * 999 := Int.mul_comm _ _
      have e3 := fun w => in_is s 0 (999 * (v + 1)) false w (by rw [hm]; exact inR_false (.inr q'))
      clear hm
      go_enter Try.func11, Try.ntmps11
      go_wp2_with fail
      refine (e2 _).mono ?_
      rintro e w1 ⟨rfl, rfl⟩
      go_wp2_with fail
      refine (e3 _).mono ?_
      rintro e w1 ⟨rfl, rfl⟩
      go_wp2_with fail
      go_ret
      exact ⟨rfl, gr_alloc (gr_refl _ _) _⟩
    · rw [fdB_word t h1 h2 q q']
      have e1 := fun w => sword_any t w hs
      have e2 := fun w => in_is v 0 23 true w (inR_true h1 h2)
      have hm : 999 * (v + 1) = (v + 1) * 999 := Int.mul_comm _ _
      have e3 := fun w => in_is s 0 (999 * (v + 1)) true w (by rw [hm]; exact inR_true q q')
      clear hm
      go_enter Try.func11, Try.ntmps11
      go_wp2_with fail
      refine (e2 _).mono ?_
      rintro e w1 ⟨rfl, rfl⟩
      go_wp2_with fail
      refine (e3 _).mono ?_
      rintro e w1 ⟨rfl, rfl⟩
      go_wp2_with fail
      refine (e1 _).mono ?_
      rintro e w1 ⟨rfl, rfl⟩
      go_wp2_with fail
      go_ret
      exact ⟨rfl, gr_alloc (gr_refl _ _) _⟩

theorem sfv_is (v s : Int) (t : ByteArray) (b : Bool) (w : World) (hs : t.size ≤ maxLen) (h : fdB v s t = b) :
    Calls Try.prog 11 #[.agg #[.int .i64 v, .int .i64 s, .string t]] w fun e w' => e = .returned (.bool b) ∧ w.grownBy w' none := h ▸ sfv_any v s t w hs

end Go.Proofs.Ytigcmdbialbadaa
