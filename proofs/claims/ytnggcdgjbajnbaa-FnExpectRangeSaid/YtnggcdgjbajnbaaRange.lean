/- The walk of FnExpectRange. -/
import Derived.Test.YtnggcdgjbajnbaaExpectB
namespace Go.Proofs.Ytnggcdgjbajnbaa
open Go.RowKit

set_option maxHeartbeats 400000 in
theorem range_walk (A : Option Addr) (n c : Nat) (zs : List Int) (w : World) (h : Code w A n c zs) :
    Calls Try.prog 3 #[.slice A n c] w fun e w' => e = .returned (.bool true) ∧ w.grownBy w' none := by
  have hc := h.cap
  have hm := h.max
  unfold maxLen at hm
  by_cases h1 : n > 1048576
  · go_enter Try.func3, Try.ntmps3
    go_wp2
    go_ret
    exact ⟨rfl, gr_refl _ _⟩
  go_enter Try.func3, Try.ntmps3
  go_wp2_with fail
  refine (dev_any A n c zs _ h).mono ?_
  rintro e w1 ⟨x, rfl, hx0, hx1, hg1⟩
  rcases (by omega : (x < -2 ∨ 23 < x) ∨ (-2 ≤ x ∧ x ≤ 23)) with hx | ⟨hx2, hx3⟩
  · have e1 := ev_is x false w1 (by simp [exOk]; omega)
    have e2 := sev_is x false w1 (by simp [exOk]; omega)
    clear hx
    go_wp2_with fail
    refine e1.mono ?_
    rintro e w1 ⟨rfl, rfl⟩
    go_wp2_with fail
    refine e2.mono ?_
    rintro e w1 ⟨rfl, rfl⟩
    go_wp2_with fail
    go_ret
    exact ⟨rfl, hg1⟩
  · have e1 := ev_is x true w1 (by simp [exOk]; omega)
    have e2 := sev_is x true w1 (by simp [exOk]; omega)
    have e4 := ev_is (-3) false w1 (by decide)
    have e5 := ev_is 24 false w1 (by decide)
    rcases (by omega : 23 ≤ x ∨ x ≤ 22) with hx | hx
    · go_wp2_with fail
      refine e1.mono ?_
      rintro e w1 ⟨rfl, rfl⟩
      go_wp2_with fail
      refine e2.mono ?_
      rintro e w1 ⟨rfl, rfl⟩
      go_wp2_with fail
      refine e4.mono ?_
      rintro e w1 ⟨rfl, rfl⟩
      go_wp2_with fail
      refine e5.mono ?_
      rintro e w1 ⟨rfl, rfl⟩
      go_wp2_with fail
      go_ret
      exact ⟨rfl, hg1⟩
    · have e3 := ev_is (x + 1) true w1 (by simp [exOk]; omega)
      go_wp2_with fail
      refine e1.mono ?_
      rintro e w1 ⟨rfl, rfl⟩
      go_wp2_with fail
      refine e2.mono ?_
      rintro e w1 ⟨rfl, rfl⟩
      go_wp2_with fail
      refine e3.mono ?_
      rintro e w1 ⟨rfl, rfl⟩
      go_wp2_with fail
      refine e4.mono ?_
      rintro e w1 ⟨rfl, rfl⟩
      go_wp2_with fail
      refine e5.mono ?_
      rintro e w1 ⟨rfl, rfl⟩
      go_wp2_with fail
      go_ret
      exact ⟨rfl, hg1⟩
end Go.Proofs.Ytnggcdgjbajnbaa
