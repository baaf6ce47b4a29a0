/- Whether two slices of ints tell the same. -/
import Derived.Test.YtnegoaaddaofiaaInts
import Derived.Test.YtnegoaaddaofiaaPick
namespace Go.Proofs.Ytnegoaaddaofiaa
open Go.RowKit

theorem take_eq_next {xs ys : List Int} {k : Nat} (h : xs.take k = ys.take k) (h1 : k < xs.length) (h2 : k < ys.length) (h3 : xs[k] = ys[k]) : xs.take (k + 1) = ys.take (k + 1) := by
  rw [List.take_succ_eq_append_getElem h1, List.take_succ_eq_append_getElem h2, h, h3]

set_option maxHeartbeats 1000000 in
theorem si_is (A B : Option Addr) (n m cA cB : Nat) (xs ys : List Int) (b : Bool) (w : World) (hA : Lies w A (ints xs)) (hB : Lies w B (ints ys)) (hn : xs.length = n) (hm : ys.length = m) (hcA : n ≤ cA) (hMA : cA ≤ maxLen) (hcB : m ≤ cB) (_ : cB ≤ maxLen) (hb : decide (xs = ys) = b) :
    Calls Try.prog 13 #[.slice A n cA, .slice B m cB] w fun e w' => e = .returned (.bool b) ∧ w.grownBy w' none := by
  unfold maxLen at hMA
  have HN := hid hn
  have HM := hid hm
  have HB := hid hb
  clear hb
  rcases (by omega : n ≠ m ∨ n = m) with h | h
  · have q : ((n : Int) != (m : Int)) = true := by simp; omega
    have HF := hid (show b = false by rw [← HB.out]; exact decide_eq_false (fun e => h (by rw [← hn, ← hm, e])))
    clear hn hm h
    go_enter Try.func13, Try.ntmps13
    go_wp2_with fail
    go_ret
    exact ⟨ret_bool HF.out.symm, gr_refl _ _⟩
  · subst h
    clear hn hm
    go_enter Try.func13, Try.ntmps13
    go_wp2_with fail
    go_loopw [5] (fun i wr => ∃ k : Nat, i = .int .i64 k ∧ k ≤ n ∧ xs.take k = ys.take k ∧ w.grownBy wr none) (fun i _ => n - (intOf i).toNat)
    case atStart => exact ⟨0, rfl, by omega, rfl, gr_refl _ _⟩
    case round =>
      obtain ⟨k, rfl, hkn, hs, hgr⟩ := hrel
      have HS := hid hs
      clear hs
      by_cases hlt : k < n
      · have hk1 : k < xs.length := by rw [HN.out]; exact hlt
        have hk2 : k < ys.length := by rw [HM.out]; exact hlt
        obtain ⟨g, o, rfl, hg, hc1⟩ := hA.open_ (by rw [ints_len]; omega)
        obtain ⟨g', o', rfl, hg', hc2⟩ := hB.open_ (by rw [ints_len]; omega)
        have cx := hgr.cell (intAt hc1 hk1) (by simp)
        have cy := hgr.cell (intAt hc2 hk2) (by simp)
        obtain ⟨x, hx⟩ : ∃ x, xs[k] = x := ⟨_, rfl⟩
        obtain ⟨y, hy⟩ : ∃ y, ys[k] = y := ⟨_, rfl⟩
        rw [hx] at cx
        rw [hy] at cy
        have HX := hid hx
        have HY := hid hy
        clear hx hy hc1 hc2
        have b1 : (0 : Int) ≤ (k : Int) := by omega
        have b2 : (k : Int) < (n : Int) := by omega
        rcases (by omega : x = y ∨ x ≠ y) with q | q
        · have q' : (x != y) = false := by simp [q]
          have HQ := hid q
          clear q
          go_wp2_with fail
          go_quiet (fail)
          go_wp2_with fail
          go_roundw
          case rel => exact ⟨k + 1, by go_num, by omega, take_eq_next HS.out hk1 hk2 (by rw [HX.out, HY.out]; exact HQ.out), gr_drewN hgr _⟩
          case measure => simp [intOf]; omega
        · have q' : (x != y) = true := by simp [q]
          have HF := hid (show b = false by rw [← HB.out]; exact decide_eq_false (fun e => by subst e; exact q (by rw [← HX.out, ← HY.out])))
          clear q
          go_wp2_with fail
          go_quiet (fail)
          go_wp2_with fail
          go_ret
          exact ⟨ret_bool HF.out.symm, gr_drewN hgr _⟩
      · have HF := hid (show b = true by
          rw [← HB.out]
          refine decide_eq_true ?_
          have := HS.out
          rw [List.take_of_length_le (by rw [HN.out]; omega), List.take_of_length_le (by rw [HM.out]; omega)] at this
          exact this)
        go_wp2_with fail
        go_ret
        exact ⟨ret_bool HF.out.symm, hgr⟩
end Go.Proofs.Ytnegoaaddaofiaa
