/- Whether two slices of texts tell the same. -/
import Derived.Test.YtmjficimnkbonaaGrp
namespace Go.Proofs.Ytmjficimnkbonaa
open Go.RowKit

theorem take_eq_nextS {xs ys : List ByteArray} {k : Nat} (h : xs.take k = ys.take k) (h1 : k < xs.length) (h2 : k < ys.length) (h3 : xs[k] = ys[k]) : xs.take (k + 1) = ys.take (k + 1) := by
  rw [List.take_succ_eq_append_getElem h1, List.take_succ_eq_append_getElem h2, h, h3]

set_option maxHeartbeats 1000000 in
theorem st_is (A B : Option Addr) (n m cA cB : Nat) (xs ys : List ByteArray) (b : Bool) (w : World) (sA : SArg w A n cA xs) (sB : SArg w B m cB ys) (hb : decide (xs = ys) = b) :
    Calls Try.prog 19 #[.slice A n cA, .slice B m cB] w fun e w' => e = .returned (.bool b) ∧ w.grownBy w' none := by
  obtain ⟨hA, hn, hcA, hMA, _⟩ := sA
  obtain ⟨hB, hm, hcB, hMB, _⟩ := sB
  unfold maxLen at hMA hMB
  have HN := hid hn
  have HM := hid hm
  have HB := hid hb
  clear hb
  rcases (by omega : n ≠ m ∨ n = m) with h | h
  · have q : ((n : Int) != (m : Int)) = true := by simp; omega
    have HF := hid (show b = false by rw [← HB.out]; exact decide_eq_false (fun e => h (by rw [← hn, ← hm, e])))
    clear hn hm h
    go_enter Try.func19, Try.ntmps19
    go_wp2_with fail
    go_ret
    exact ⟨ret_bool HF.out.symm, gr_refl _ _⟩
  · subst h
    clear hn hm
    go_enter Try.func19, Try.ntmps19
    go_wp2_with fail
    go_loopw [5] (fun i wr => ∃ k : Nat, i = .int .i64 k ∧ k ≤ n ∧ xs.take k = ys.take k ∧ w.grownBy wr none) (fun i _ => n - (intOf i).toNat)
    case atStart => exact ⟨0, rfl, by omega, rfl, gr_refl _ _⟩
    case round =>
      obtain ⟨k, rfl, hkn, hs, hgr⟩ := hrel
      have HS := hid hs
      clear hs
      by_cases hlt : k < n
      · have hk1 : k < xs.length := by rw [HN.out]; exact hlt
        have hk2 : k < ys.length := by rw [HM.out]; exact hlt
        obtain ⟨g, o, rfl, hg, hc1⟩ := hA.open_ (by rw [strs_len]; omega)
        obtain ⟨g', o', rfl, hg', hc2⟩ := hB.open_ (by rw [strs_len]; omega)
        have cx := hgr.cell (strAt' hc1 hk1) (by simp)
        have cy := hgr.cell (strAt' hc2 hk2) (by simp)
        obtain ⟨x, hx⟩ : ∃ x, xs[k] = x := ⟨_, rfl⟩
        obtain ⟨y, hy⟩ : ∃ y, ys[k] = y := ⟨_, rfl⟩
        rw [hx] at cx
        rw [hy] at cy
        have HX := hid hx
        have HY := hid hy
        clear hx hy hc1 hc2
        have b1 : (0 : Int) ≤ (k : Int) := by omega
        have b2 : (k : Int) < (n : Int) := by omega
        rcases Decidable.em (x = y) with q | q
        · have q' : (x.toList == y.toList) = true := by rw [q]; simp
          have HQ := hid q
          clear q
          go_wp2_with fail
          go_quiet (fail)
          go_wp2_with fail
          go_roundw
          case rel => exact ⟨k + 1, by go_num, by omega, take_eq_nextS HS.out hk1 hk2 (by rw [HX.out, HY.out]; exact HQ.out), gr_drewN hgr _⟩
          case measure => simp [intOf]; omega
        · have q' : (x.toList == y.toList) = false := by rw [beq_bytes]; exact decide_eq_false q
          have HF := hid (show b = false by rw [← HB.out]; exact decide_eq_false (fun e => by subst e; exact q (by rw [← HX.out, ← HY.out])))
          clear q
          go_wp2_with fail
          go_quiet (fail)
          go_wp2_with fail
          go_ret
          exact ⟨ret_bool HF.out.symm, gr_drewN hgr _⟩
      · have HF := hid (show b = true by
          rw [← HB.out]
          refine decide_eq_true ?_
          have := HS.out
          rw [List.take_of_length_le (by rw [HN.out]; omega), List.take_of_length_le (by rw [HM.out]; omega)] at this
          exact this)
        go_wp2_with fail
        go_ret
        exact ⟨ret_bool HF.out.symm, hgr⟩
set_option maxHeartbeats 1000000 in
theorem es_is (A B : Option Addr) (n m cA cB : Nat) (xs ys : List ByteArray) (b : Bool) (w : World) (sA : SArg w A n cA xs) (sB : SArg w B m cB ys) (hb : decide (xs = ys) = b) :
    Calls Try.prog 55 #[.slice A n cA, .slice B m cB] w fun e w' => e = .returned (.bool b) ∧ w.grownBy w' none := by
  obtain ⟨hA, hn, hcA, hMA, _⟩ := sA
  obtain ⟨hB, hm, hcB, hMB, _⟩ := sB
  unfold maxLen at hMA hMB
  have HN := hid hn
  have HM := hid hm
  have HB := hid hb
  clear hb
  rcases (by omega : n ≠ m ∨ n = m) with h | h
  · have q : ((n : Int) != (m : Int)) = true := by simp; omega
    have HF := hid (show b = false by rw [← HB.out]; exact decide_eq_false (fun e => h (by rw [← hn, ← hm, e])))
    clear hn hm h
    go_enter Try.func55, Try.ntmps55
    go_wp2_with fail
    go_ret
    exact ⟨ret_bool HF.out.symm, gr_refl _ _⟩
  · subst h
    clear hn hm
    go_enter Try.func55, Try.ntmps55
    go_wp2_with fail
    go_loopw [5] (fun i wr => ∃ k : Nat, i = .int .i64 k ∧ k ≤ n ∧ xs.take k = ys.take k ∧ w.grownBy wr none) (fun i _ => n - (intOf i).toNat)
    case atStart => exact ⟨0, rfl, by omega, rfl, gr_refl _ _⟩
    case round =>
      obtain ⟨k, rfl, hkn, hs, hgr⟩ := hrel
      have HS := hid hs
      clear hs
      by_cases hlt : k < n
      · have hk1 : k < xs.length := by rw [HN.out]; exact hlt
        have hk2 : k < ys.length := by rw [HM.out]; exact hlt
        obtain ⟨g, o, rfl, hg, hc1⟩ := hA.open_ (by rw [strs_len]; omega)
        obtain ⟨g', o', rfl, hg', hc2⟩ := hB.open_ (by rw [strs_len]; omega)
        have cx := hgr.cell (strAt' hc1 hk1) (by simp)
        have cy := hgr.cell (strAt' hc2 hk2) (by simp)
        obtain ⟨x, hx⟩ : ∃ x, xs[k] = x := ⟨_, rfl⟩
        obtain ⟨y, hy⟩ : ∃ y, ys[k] = y := ⟨_, rfl⟩
        rw [hx] at cx
        rw [hy] at cy
        have HX := hid hx
        have HY := hid hy
        clear hx hy hc1 hc2
        have b1 : (0 : Int) ≤ (k : Int) := by omega
        have b2 : (k : Int) < (n : Int) := by omega
        rcases Decidable.em (x = y) with q | q
        · have q' : (x.toList == y.toList) = true := by rw [q]; simp
          have HQ := hid q
          clear q
          go_wp2_with fail
          go_quiet (fail)
          go_wp2_with fail
          go_roundw
          case rel => exact ⟨k + 1, by go_num, by omega, take_eq_nextS HS.out hk1 hk2 (by rw [HX.out, HY.out]; exact HQ.out), gr_drewN hgr _⟩
          case measure => simp [intOf]; omega
        · have q' : (x.toList == y.toList) = false := by rw [beq_bytes]; exact decide_eq_false q
          have HF := hid (show b = false by rw [← HB.out]; exact decide_eq_false (fun e => by subst e; exact q (by rw [← HX.out, ← HY.out])))
          clear q
          go_wp2_with fail
          go_quiet (fail)
          go_wp2_with fail
          go_ret
          exact ⟨ret_bool HF.out.symm, gr_drewN hgr _⟩
      · have HF := hid (show b = true by
          rw [← HB.out]
          refine decide_eq_true ?_
          have := HS.out
          rw [List.take_of_length_le (by rw [HN.out]; omega), List.take_of_length_le (by rw [HM.out]; omega)] at this
          exact this)
        go_wp2_with fail
        go_ret
        exact ⟨ret_bool HF.out.symm, hgr⟩
end Go.Proofs.Ytmjficimnkbonaa
