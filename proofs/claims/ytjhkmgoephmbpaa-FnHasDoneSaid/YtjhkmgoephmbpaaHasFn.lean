/- The walk of FnHas. -/
import Derived.Test.YtjhkmgoephmbpaaHas
import Derived.Test.YtjhkmgoephmbpaaHasDraw
namespace Go.Proofs.Ytjhkmgoephmbpaa
open Go.RowKit

theorem chB_parts {d : Int} {xs : List Int} {x : Int} (h : chB d xs x = true) : ckB d xs = true ∧ inR x 0 99 = true ∧ hasB d xs x = true := by
  simp only [chB, Bool.and_eq_true] at h
  exact ⟨h.1.1, h.1.2, h.2⟩

set_option maxHeartbeats 1000000 in
theorem has_walk (A : Option Addr) (n c : Nat) (zs : List Int) (w : World) (h : Code w A n c zs) :
    Calls Try.prog 5 #[.slice A n c] w fun e w' => e = .returned (.bool true) ∧ w.grownBy w' none := by
  have hc := h.cap
  have hm := h.max
  unfold maxLen at hm
  by_cases h1 : n > 1048576
  · go_enter Try.func5, Try.ntmps5
    go_wp2
    go_ret
    exact ⟨rfl, gr_refl _ _⟩
  go_enter Try.func5, Try.ntmps5
  go_wp2_with fail
  refine (dch_any A n c zs _ h).mono ?_
  rintro e w1 ⟨d, B, N, C, xs, x, rfl, hO, hl, hsm, hx0, hx1, hg1⟩
  have hC := hO.cap
  have hCm := hO.max
  have hd0 := hsm.d0
  have hd1 := hsm.d1
  have hN := hsm.len
  rw [hl] at hN
  obtain ⟨b, hb⟩ : ∃ b, chB d xs x = b := ⟨_, rfl⟩
  have HB := hid hb
  have e1 := fun w hL => ch_is d B N C xs x b w hL hl hC hCm hb
  have e2 := fun w hL => sch_is d B N C xs x b w hL hl hC hCm (by omega) (by omega) hb
  have e3 := fun w hL q => hi_is B N C xs x true w hL hl hC hCm q
  have F1 := Full.new w1 25 #[.int .i64 d, .slice B N C]
  have hL1 := hO.lies.alloc (.cells #[.int .i64 d, .slice B N C] 25)
  clear hl hb hO
  unfold maxLen at hCm
  go_wp2_with fail
  refine (e1 _ hL1).mono ?_
  rintro e w2 ⟨rfl, hg2⟩
  have F2 := F1.grown hg2 (by simp)
  have hL2 := hL1.grown0 hg2
  have G2 := gr_0 (gr_alloc hg1 _) hg2
  have c0 := F2.cellAt 0 rfl
  have c1 := F2.cellAt 1 rfl
  clear e1
  go_wp2_with fail
  refine (e2 _ hL2).mono ?_
  rintro e w3 ⟨rfl, hg3⟩
  have F3 := F2.grown hg3 (by simp)
  have hL3 := hL2.grown0 hg3
  have G3 := gr_0 G2 hg3
  have c0 := F3.cellAt 0 rfl
  have c1 := F3.cellAt 1 rfl
  clear e2
  cases b with
  | false =>
    go_wp2_with fail
    go_ret
    exact ⟨rfl, G3⟩
  | true =>
    have hp := (chB_parts HB.out).2.2
    rcases (by omega : x < d ∨ ¬ x < d) with hd | hd
    · go_wp2_with fail
      go_ret
      exact ⟨rfl, G3⟩
    · have q : decide (x ∈ xs) = true := by
        simp only [hasB, decide_eq_false hd, Bool.or_false] at hp
        exact hp
      have e4 := fun w hL => e3 w hL q
      clear hp q
      go_wp2_with fail
      refine (e4 _ hL3).mono ?_
      rintro e w4 ⟨rfl, rfl⟩
      go_wp2_with fail
      go_ret
      exact ⟨rfl, G3⟩
end Go.Proofs.Ytjhkmgoephmbpaa
