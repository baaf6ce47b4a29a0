/- Events: what is valid, in impl and in spec. -/
import Derived.Test.YtnjbpeojadbclaaDoorWord
namespace Go.Proofs.YtnjbpeojadbclaaDoor
open Go.RowKit

/-- An event as data. -/
structure Ev where
  id : Int
  kind : ByteArray
  data : Int

def Ev.cells (e : Ev) : List Value := [.int .i64 e.id, .string e.kind, .int .i64 e.data]
def Ev.val (e : Ev) : Value := .agg #[.int .i64 e.id, .string e.kind, .int .i64 e.data]
def evB (e : Ev) : Bool := decide (1 ≤ e.id ∧ e.id ≤ 9999) && wordB e.kind && decide (0 ≤ e.data ∧ e.data ≤ 999)

theorem evB_id (i : Int) (k : ByteArray) (d : Int) (h : i < 1 ∨ 9999 < i) : evB ⟨i, k, d⟩ = false := by
  simp only [evB, show decide (1 ≤ i ∧ i ≤ 9999) = false by simp; omega, Bool.false_and]
theorem evB_word (i : Int) (k : ByteArray) (d : Int) (h : wordB k = false) : evB ⟨i, k, d⟩ = false := by
  simp only [evB, h, Bool.and_false, Bool.false_and]
theorem evB_in (i : Int) (k : ByteArray) (d : Int) (h1 : 1 ≤ i) (h2 : i ≤ 9999) (h : wordB k = true) : evB ⟨i, k, d⟩ = decide (0 ≤ d ∧ d ≤ 999) := by
  simp only [evB, h, show decide (1 ≤ i ∧ i ≤ 9999) = true by simp; omega, Bool.true_and]
theorem evB_parts {e : Ev} (h : evB e = true) : (1 ≤ e.id ∧ e.id ≤ 9999) ∧ wordB e.kind = true ∧ (0 ≤ e.data ∧ e.data ≤ 999) := by
  simp only [evB, Bool.and_eq_true, decide_eq_true_eq] at h
  exact ⟨h.1.1, h.1.2, h.2⟩

set_option maxHeartbeats 1000000 in
theorem ev_any' (i : Int) (k : ByteArray) (d : Int) (w : World) (hs : k.size ≤ maxLen) :
    Calls Tryd.prog 38 #[.agg #[.int .i64 i, .string k, .int .i64 d]] w fun e w' => e = .returned (.bool (evB ⟨i, k, d⟩)) ∧ w.grownBy w' none := by
  rcases (by omega : i < 1 ∨ (1 ≤ i ∧ 9999 < i) ∨ (1 ≤ i ∧ i ≤ 9999)) with h1 | ⟨h1, h2⟩ | ⟨h1, h2⟩
  · rw [evB_id i k d (.inl h1)]
    go_enter Tryd.func38, Tryd.ntmps38
    go_wp2_with fail
    go_ret
    exact ⟨rfl, gr_alloc (gr_refl _ _) _⟩
  · rw [evB_id i k d (.inr h2)]
    go_enter Tryd.func38, Tryd.ntmps38
    go_wp2_with fail
    go_ret
    exact ⟨rfl, gr_alloc (gr_refl _ _) _⟩
  · obtain ⟨b, hb⟩ : ∃ b, wordB k = b := ⟨_, rfl⟩
    have e1 := fun w => word_is k b w hs hb
    cases b
    · rw [evB_word i k d hb]
      clear hb
      go_enter Tryd.func38, Tryd.ntmps38
      go_wp2_with fail
      refine (e1 _).mono ?_
      rintro e w1 ⟨rfl, rfl⟩
      go_wp2_with fail
      go_ret
      exact ⟨rfl, gr_alloc (gr_refl _ _) _⟩
    · rw [evB_in i k d h1 h2 hb]
      clear hb
      rcases (by omega : d < 0 ∨ 0 ≤ d) with h3 | h3
      · go_enter Tryd.func38, Tryd.ntmps38
        go_wp2_with fail
        refine (e1 _).mono ?_
        rintro e w1 ⟨rfl, rfl⟩
        go_wp2_with fail
        go_ret
        exact ⟨ret_bool (by simp; omega), gr_alloc (gr_refl _ _) _⟩
      · go_enter Tryd.func38, Tryd.ntmps38
        go_wp2_with fail
        refine (e1 _).mono ?_
        rintro e w1 ⟨rfl, rfl⟩
        go_wp2_with fail
        go_ret
        exact ⟨ret_bool (by simp [h3]), gr_alloc (gr_refl _ _) _⟩
theorem evm_is (i : Int) (k : ByteArray) (d : Int) (b : Bool) (w : World) (hs : k.size ≤ maxLen) (h : evB ⟨i, k, d⟩ = b) :
    Calls Tryd.prog 38 #[.agg #[.int .i64 i, .string k, .int .i64 d]] w fun e w' => e = .returned (.bool b) ∧ w.grownBy w' none := h ▸ ev_any' i k d w hs

set_option maxHeartbeats 1000000 in
theorem sev_any' (i : Int) (k : ByteArray) (d : Int) (w : World) (hs : k.size ≤ maxLen) :
    Calls Tryd.prog 29 #[.agg #[.int .i64 i, .string k, .int .i64 d]] w fun e w' => e = .returned (.bool (evB ⟨i, k, d⟩)) ∧ w.grownBy w' none := by
  have e2 := fun w => in_any d 0 999 w
  rcases (by omega : (i < 1 ∨ 9999 < i) ∨ (1 ≤ i ∧ i ≤ 9999)) with h1 | ⟨h1, h2⟩
  · have e1 := fun w => in_is i 1 9999 false w (inR_false h1)
    rw [evB_id i k d h1]
    clear h1
    go_enter Tryd.func29, Tryd.ntmps29
    go_wp2_with fail
    refine (e1 _).mono ?_
    rintro e w1 ⟨rfl, rfl⟩
    go_wp2_with fail
    go_ret
    exact ⟨rfl, gr_alloc (gr_refl _ _) _⟩
  · have e1 := fun w => in_is i 1 9999 true w (inR_true h1 h2)
    obtain ⟨b, hb⟩ : ∃ b, wordB k = b := ⟨_, rfl⟩
    have e3 := fun w => sword_is k b w hs hb
    cases b
    · rw [evB_word i k d hb]
      clear hb
      go_enter Tryd.func29, Tryd.ntmps29
      go_wp2_with fail
      refine (e1 _).mono ?_
      rintro e w1 ⟨rfl, rfl⟩
      go_wp2_with fail
      refine (e3 _).mono ?_
      rintro e w1 ⟨rfl, rfl⟩
      go_wp2_with fail
      go_ret
      exact ⟨rfl, gr_alloc (gr_refl _ _) _⟩
    · rw [evB_in i k d h1 h2 hb]
      clear hb
      go_enter Tryd.func29, Tryd.ntmps29
      go_wp2_with fail
      refine (e1 _).mono ?_
      rintro e w1 ⟨rfl, rfl⟩
      go_wp2_with fail
      refine (e3 _).mono ?_
      rintro e w1 ⟨rfl, rfl⟩
      go_wp2_with fail
      refine (e2 _).mono ?_
      rintro e w1 ⟨rfl, rfl⟩
      go_wp2_with fail
      go_ret
      exact ⟨rfl, gr_alloc (gr_refl _ _) _⟩
theorem sevm_is (i : Int) (k : ByteArray) (d : Int) (b : Bool) (w : World) (hs : k.size ≤ maxLen) (h : evB ⟨i, k, d⟩ = b) :
    Calls Tryd.prog 29 #[.agg #[.int .i64 i, .string k, .int .i64 d]] w fun e w' => e = .returned (.bool b) ∧ w.grownBy w' none := h ▸ sev_any' i k d w hs
end Go.Proofs.YtnjbpeojadbclaaDoor
