/- FollowRun in impl and in spec. -/
import Derived.Test.YtnjbpeojadbclaaDoorMend
namespace Go.Proofs.YtnjbpeojadbclaaDoor
open Go.RowKit

/-- How many entries a follower lacks; -1 when it does not follow. -/
def leftV (b : Bool) (n m q : Nat) : Int := if b = true then if m ≤ q then (n : Int) - (m : Int) else -1 else -1
theorem leftV_lt {n m q : Nat} (k : q < m) : leftV true n m q = -1 := by rw [leftV, if_pos (by rfl), if_neg (by omega)]
theorem leftV_ge {n m q : Nat} (k : m ≤ q) : leftV true n m q = (n : Int) - (m : Int) := by rw [leftV, if_pos (by rfl), if_pos k]

set_option maxHeartbeats 2000000 in
theorem fleft_is (A B : Option Addr) (n cA m cB : Nat) (xs ys : List En) (q : Nat) (r : Int) (a : Addr) (w : World) (h : EArg w A n cA xs) (h2 : EArg w B m cB ys) (hE : Sent w a) (hq : Comm xs ys q) (hr : leftV (storeB xs && storeB ys) n m q = r) :
    Calls Tryd.prog 24 #[.slice A n cA, .slice B m cB] w fun e w' => e = .returned (.int .i64 r) ∧ w.grownBy w' none := by
  obtain ⟨b1, hb1⟩ : ∃ b, storeB xs = b := ⟨_, rfl⟩
  obtain ⟨b2, hb2⟩ : ∃ b, storeB ys = b := ⟨_, rfl⟩
  have e1 := sv_is A n cA xs b1 a w h hE hb1
  have e2 := hid (fun w' (hg : w.grownBy w' none) => sv_is B m cB ys b2 a w' (h2.grown0 hg) (hE.grown0 hg) hb2)
  have e3 := hid (fun w' (hg : w.grownBy w' none) => cm_is A B n cA m cB xs ys q w' (h.grown0 hg) (h2.grown0 hg) hq)
  rw [hb1, hb2] at hr
  have HR := hid hr
  have hmc := h2.cap
  have hmx := h2.max
  have hnc := h.cap
  have hnx := h.max
  have hq2 : q ≤ m := by rw [← h2.len]; exact hq.lb
  unfold maxLen at hmx hnx
  clear hb1 hb2 h h2 hE hq hr
  go_enter Tryd.func24, Tryd.ntmps24
  go_wp2_with fail
  refine e1.mono ?_
  rintro e w1 ⟨rfl, hg1⟩
  clear e1
  cases b1 with
  | false =>
    obtain rfl : r = -1 := HR.out.symm
    clear e2 e3
    go_wp2_with fail
    go_ret
    exact ⟨rfl, hg1⟩
  | true =>
  go_wp2_with fail
  refine (e2.out _ hg1).mono ?_
  rintro e w2 ⟨rfl, hg2⟩
  have G2 := gr_0 hg1 hg2
  clear e2 hg1 hg2
  cases b2 with
  | false =>
    obtain rfl : r = -1 := HR.out.symm
    clear e3
    go_wp2_with fail
    go_ret
    exact ⟨rfl, G2⟩
  | true =>
    go_wp2_with fail
    refine (e3.out _ G2).mono ?_
    rintro e w3 ⟨rfl, hg3⟩
    have G3 := gr_0 G2 hg3
    clear e3 G2 hg3
    rcases (by omega : q < m ∨ m ≤ q) with k | k
    · obtain rfl : r = -1 := HR.out.symm.trans (leftV_lt k)
      go_wp2_with fail
      go_ret
      exact ⟨rfl, G3⟩
    · obtain rfl : r = (n : Int) - (m : Int) := HR.out.symm.trans (leftV_ge k)
      go_wp2_with fail
      go_ret
      exact ⟨rfl, G3⟩

set_option maxHeartbeats 1000000 in
theorem readable_is (i j : Int) (b : Bool) (w : World) (hb : (inR i 0 99 && inR j 0 99) = b) :
    Calls Tryd.prog 25 #[.int .i64 i, .int .i64 j] w fun e w' => e = .returned (.bool b) ∧ w' = w := by
  rcases (by omega : i < 0 ∨ 99 < i ∨ (0 ≤ i ∧ i ≤ 99)) with h | h | h
  · rw [inR_false (.inl h)] at hb
    subst hb
    go_enter Tryd.func25, Tryd.ntmps25
    go_wp2_with fail
    go_ret
    exact ⟨by first | rfl | exact ret_bool (by simp; omega), rfl⟩
  · rw [inR_false (.inr h)] at hb
    subst hb
    go_enter Tryd.func25, Tryd.ntmps25
    go_wp2_with fail
    go_ret
    exact ⟨by first | rfl | exact ret_bool (by simp; omega), rfl⟩
  · rw [inR_true h.1 h.2] at hb
    obtain ⟨h0, h1⟩ := h
    rcases (by omega : j < 0 ∨ 99 < j ∨ (0 ≤ j ∧ j ≤ 99)) with g | g | g
    · rw [inR_false (.inl g)] at hb
      subst hb
      go_enter Tryd.func25, Tryd.ntmps25
      go_wp2_with fail
      go_ret
      exact ⟨by first | rfl | exact ret_bool (by simp; omega), rfl⟩
    · rw [inR_false (.inr g)] at hb
      subst hb
      go_enter Tryd.func25, Tryd.ntmps25
      go_wp2_with fail
      go_ret
      exact ⟨by first | rfl | exact ret_bool (by simp; omega), rfl⟩
    · rw [inR_true g.1 g.2] at hb
      subst hb
      obtain ⟨g0, g1⟩ := g
      go_enter Tryd.func25, Tryd.ntmps25
      go_wp2_with fail
      go_ret
      exact ⟨by first | rfl | exact ret_bool (by simp; omega), rfl⟩

end Go.Proofs.YtnjbpeojadbclaaDoor
