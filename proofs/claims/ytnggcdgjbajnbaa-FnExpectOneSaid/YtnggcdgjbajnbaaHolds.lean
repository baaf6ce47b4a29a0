/- The walks of FnExpect and FnExpectOne. -/
import Derived.Test.YtnggcdgjbajnbaaExpectB
namespace Go.Proofs.Ytnggcdgjbajnbaa
open Go.RowKit

set_option maxHeartbeats 400000 in
theorem expect_walk (A : Option Addr) (n c : Nat) (zs : List Int) (w : World) (h : Code w A n c zs) :
    Calls Try.prog 4 #[.slice A n c] w fun e w' => e = .returned (.bool true) ∧ w.grownBy w' none := by
  have hc := h.cap
  have hm := h.max
  unfold maxLen at hm
  by_cases h1 : n > 1048576
  · go_enter Try.func4, Try.ntmps4
    go_wp2
    go_ret
    exact ⟨rfl, gr_refl _ _⟩
  go_enter Try.func4, Try.ntmps4
  go_wp2_with fail
  refine (deh_any A n c zs _ h).mono ?_
  rintro e w1 ⟨x, v, rfl, hx0, hx1, hv0, hv1, hg1⟩
  obtain ⟨b, hb⟩ : ∃ b, exHolds x v = b := ⟨_, rfl⟩
  have e1 := eh_is x v b w1 hb
  have e2 := fun w2 => seh_is x v b w2 hb
  have e3 := fun w2 => eh_is (-2) v true w2
  have e4 := fun w2 => eh_is v v true w2
  rcases (by omega : v < -1 ∨ 23 < v ∨ (-1 ≤ v ∧ v ≤ 23)) with hv | hv | ⟨hv2, hv3⟩
  iterate 2
    · clear hb
      cases b
      all_goals
        go_wp2_with fail
        refine e1.mono ?_
        rintro e w2 ⟨rfl, hg2⟩
        go_wp2_with fail
        refine (e2 _).mono ?_
        rintro e w3 ⟨rfl, rfl⟩
        go_wp2_with fail
        go_ret
        exact ⟨rfl, gr_0 hg1 hg2⟩
  · replace e3 := fun w2 => e3 w2 (by simp [exHolds]; omega)
    replace e4 := fun w2 => e4 w2 (by simp [exHolds]; omega)
    clear hb
    cases b
    all_goals
      go_wp2_with fail
      refine e1.mono ?_
      rintro e w2 ⟨rfl, hg2⟩
      go_wp2_with fail
      refine (e2 _).mono ?_
      rintro e w3 ⟨rfl, rfl⟩
      go_wp2_with fail
      refine (e3 _).mono ?_
      rintro e w4 ⟨rfl, hg4⟩
      go_wp2_with fail
      refine (e4 _).mono ?_
      rintro e w5 ⟨rfl, hg5⟩
      go_wp2_with fail
      go_ret
      exact ⟨rfl, gr_0 (gr_0 (gr_0 hg1 hg2) hg4) hg5⟩

set_option maxHeartbeats 400000 in
theorem one_walk (A : Option Addr) (n c : Nat) (zs : List Int) (w : World) (h : Code w A n c zs) :
    Calls Try.prog 5 #[.slice A n c] w fun e w' => e = .returned (.bool true) ∧ w.grownBy w' none := by
  have hc := h.cap
  have hm := h.max
  unfold maxLen at hm
  by_cases h1 : n > 1048576
  · go_enter Try.func5, Try.ntmps5
    go_wp2
    go_ret
    exact ⟨rfl, gr_refl _ _⟩
  go_enter Try.func5, Try.ntmps5
  go_wp2_with fail
  refine (deh_any A n c zs _ h).mono ?_
  rintro e w1 ⟨x, v, rfl, hx0, hx1, hv0, hv1, hg1⟩
  obtain ⟨b, hb⟩ : ∃ b, exHolds x v = b := ⟨_, rfl⟩
  have e1 := eh_is x v b w1 hb
  have e2 := fun w2 => seh_is x v b w2 hb
  cases b
  · clear hb
    go_wp2_with fail
    refine e1.mono ?_
    rintro e w2 ⟨rfl, hg2⟩
    go_wp2_with fail
    refine (e2 _).mono ?_
    rintro e w3 ⟨rfl, rfl⟩
    go_wp2_with fail
    go_ret
    exact ⟨rfl, gr_0 hg1 hg2⟩
  · have hr : (-1 ≤ v ∧ v ≤ 23) ∧ (-2 ≤ x ∧ x ≤ 23) ∧ (x = -2 ∨ x = v) := by simpa [exHolds] using hb
    obtain ⟨_, ⟨hx2, _⟩, hxv⟩ := hr
    have e3 := fun w2 => eh_is x (v + 1) false w2
    clear hb
    rcases (by omega : x ≤ -2 ∨ -2 < x) with hx | hx
    · clear e3 hxv
      go_wp2_with fail
      refine e1.mono ?_
      rintro e w2 ⟨rfl, hg2⟩
      go_wp2_with fail
      refine (e2 _).mono ?_
      rintro e w3 ⟨rfl, rfl⟩
      go_wp2_with fail
      go_ret
      exact ⟨rfl, gr_0 hg1 hg2⟩
    · replace e3 := fun w2 => e3 w2 (by simp [exHolds]; omega)
      obtain rfl : v = x := by omega
      clear hxv
      go_wp2_with fail
      refine e1.mono ?_
      rintro e w2 ⟨rfl, hg2⟩
      go_wp2_with fail
      refine (e2 _).mono ?_
      rintro e w3 ⟨rfl, rfl⟩
      go_wp2_with fail
      refine (e3 _).mono ?_
      rintro e w4 ⟨rfl, hg4⟩
      go_wp2_with fail
      go_ret
      exact ⟨rfl, gr_0 (gr_0 hg1 hg2) hg4⟩
end Go.Proofs.Ytnggcdgjbajnbaa
