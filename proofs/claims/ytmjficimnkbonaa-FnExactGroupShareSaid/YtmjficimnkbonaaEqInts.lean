/- eqIntS, markIntS, heldIntS. -/
import Derived.Test.YtmjficimnkbonaaSame
import Derived.Test.YtmjficimnkbonaaOwnSet
namespace Go.Proofs.Ytmjficimnkbonaa
open Go.RowKit

set_option maxHeartbeats 1000000 in
theorem ei_is (A B : Option Addr) (n m cA cB : Nat) (xs ys : List Int) (b : Bool) (w : World) (hA : Lies w A (ints xs)) (hB : Lies w B (ints ys)) (hn : xs.length = n) (hm : ys.length = m) (hcA : n ≤ cA) (hMA : cA ≤ maxLen) (hcB : m ≤ cB) (_ : cB ≤ maxLen) (hb : decide (xs = ys) = b) :
    Calls Try.prog 37 #[.slice A n cA, .slice B m cB] w fun e w' => e = .returned (.bool b) ∧ w.grownBy w' none := by
  unfold maxLen at hMA
  have HN := hid hn
  have HM := hid hm
  have HB := hid hb
  clear hb
  rcases (by omega : n ≠ m ∨ n = m) with h | h
  · have q : ((n : Int) != (m : Int)) = true := by simp; omega
    have HF := hid (show b = false by rw [← HB.out]; exact decide_eq_false (fun e => h (by rw [← hn, ← hm, e])))
    clear hn hm h
    go_enter Try.func37, Try.ntmps37
    go_wp2_with fail
    go_ret
    exact ⟨ret_bool HF.out.symm, gr_refl _ _⟩
  · subst h
    clear hn hm
    go_enter Try.func37, Try.ntmps37
    go_wp2_with fail
    go_loopw [5] (fun i wr => ∃ k : Nat, i = .int .i64 k ∧ k ≤ n ∧ xs.take k = ys.take k ∧ w.grownBy wr none) (fun i _ => n - (intOf i).toNat)
    case atStart => exact ⟨0, rfl, by omega, rfl, gr_refl _ _⟩
    case round =>
      obtain ⟨k, rfl, hkn, hs, hgr⟩ := hrel
      have HS := hid hs
      clear hs
      by_cases hlt : k < n
      · have hk1 : k < xs.length := by rw [HN.out]; exact hlt
        have hk2 : k < ys.length := by rw [HM.out]; exact hlt
        obtain ⟨g, o, rfl, hg, hc1⟩ := hA.open_ (by rw [ints_len]; omega)
        obtain ⟨g', o', rfl, hg', hc2⟩ := hB.open_ (by rw [ints_len]; omega)
        have cx := hgr.cell (intAt hc1 hk1) (by simp)
        have cy := hgr.cell (intAt hc2 hk2) (by simp)
        obtain ⟨x, hx⟩ : ∃ x, xs[k] = x := ⟨_, rfl⟩
        obtain ⟨y, hy⟩ : ∃ y, ys[k] = y := ⟨_, rfl⟩
        rw [hx] at cx
        rw [hy] at cy
        have HX := hid hx
        have HY := hid hy
        clear hx hy hc1 hc2
        have b1 : (0 : Int) ≤ (k : Int) := by omega
        have b2 : (k : Int) < (n : Int) := by omega
        rcases (by omega : x = y ∨ x ≠ y) with q | q
        · have q' : (x != y) = false := by simp [q]
          have HQ := hid q
          clear q
          go_wp2_with fail
          go_quiet (fail)
          go_wp2_with fail
          go_roundw
          case rel => exact ⟨k + 1, by go_num, by omega, take_eq_next HS.out hk1 hk2 (by rw [HX.out, HY.out]; exact HQ.out), gr_drewN hgr _⟩
          case measure => simp [intOf]; omega
        · have q' : (x != y) = true := by simp [q]
          have HF := hid (show b = false by rw [← HB.out]; exact decide_eq_false (fun e => by subst e; exact q (by rw [← HX.out, ← HY.out])))
          clear q
          go_wp2_with fail
          go_quiet (fail)
          go_wp2_with fail
          go_ret
          exact ⟨ret_bool HF.out.symm, gr_drewN hgr _⟩
      · have HF := hid (show b = true by
          rw [← HB.out]
          refine decide_eq_true ?_
          have := HS.out
          rw [List.take_of_length_le (by rw [HN.out]; omega), List.take_of_length_le (by rw [HM.out]; omega)] at this
          exact this)
        go_wp2_with fail
        go_ret
        exact ⟨ret_bool HF.out.symm, hgr⟩

/-- n numbers from k on. -/
def nums (k n : Nat) : List Int := (List.range n).map fun i => ((k + i : Nat) : Int)
theorem nums_next (k n : Nat) : nums k (n + 1) = nums k n ++ [((k + n : Nat) : Int)] := by simp [nums, List.range_succ]
theorem nums_len (k n : Nat) : (nums k n).length = n := by simp [nums]
theorem nums_at (k n j : Nat) (h : j < (nums k n).length) : (nums k n)[j] = ((k + j : Nat) : Int) := by simp [nums]
def MarkITo (w : World) (base : Nat) (A : Option Addr) (n c k : Nat) (e : Ending) (w' : World) : Prop :=
  e = .returned (.int .i64 ((k + n : Nat) : Int)) ∧ Own w' base 3 1 A n c (ints (nums k n)) ∧ w.grownBy w' (blockOf A)
theorem take_set_nextI {xs : List Value} {v : Value} {l : List Int} {x : Int} {j : Nat} (h : xs.take j = ints l) (hj : j < xs.length) (hv : v = .int .i64 x) : (xs.set j v).take (j + 1) = ints (l ++ [x]) := by
  rw [List.take_succ_eq_append_getElem (by rw [List.length_set]; exact hj), List.take_set_of_le (Nat.le_refl j), h, List.getElem_set_self, ints_app, hv]
  rfl
set_option maxHeartbeats 1000000 in
theorem marki_any (base : Nat) (A : Option Addr) (n c k : Nat) (xs : List Value) (w : World) (h : Own w base 3 1 A n c xs) (hn : n ≤ 1048576) (hk : k ≤ 100) :
    Calls Try.prog 38 #[.slice A n c, .int .i64 (k : Int)] w (MarkITo w base A n c k) := by
  have hcap := h.cap
  have hmax := h.max
  unfold maxLen at hmax
  have HO := hid h
  have HL := hid (show xs.length = n by have := h.len; omega)
  clear h
  go_enter Try.func38, Try.ntmps38
  go_wp2_with fail
  go_loopw [1, 5] (fun kv iv wr => ∃ (j : Nat) (ys : List Value), kv = .int .i64 ((k : Int) + (j : Int)) ∧ iv = .int .i64 (j : Int) ∧ j ≤ n ∧ ys.length = n ∧ ys.take j = ints (nums k j) ∧ Own wr base 3 1 A n c ys ∧ w.grownBy wr (blockOf A)) (fun _ iv _ => n - (intOf iv).toNat)
  case atStart => exact ⟨0, xs, by first | rfl | simp, rfl, by omega, HL.out, by simp [nums, ints], HO.out, gr_refl _ _⟩
  case round =>
    clear HO HL
    obtain ⟨j, ys, rfl, rfl, hjn, hyl, hyt, hO, hG⟩ := hrel
    have HYl := hid hyl
    have HYt := hid hyt
    clear hyl hyt
    by_cases hlt : j < n
    · obtain ⟨g, cur, rfl, hbg, FA, hcA⟩ := hO.open_ (by omega)
      have q1 : ((k + j : Nat) : Int) = (k : Int) + (j : Int) := by omega
      have b1 : (0 : Int) ≤ (j : Int) := by omega
      have b2 : (j : Int) < (n : Int) := by omega
      have fa := FA.free j
      obtain ⟨v, cx⟩ : ∃ v, wr.cell? ⟨g, j, none⟩ = some v := ⟨_, hcA j _ (List.getElem?_eq_getElem (by rw [HYl.out]; exact hlt))⟩
      have HO2 := hid (hO.set j (.int .i64 ((k : Int) + (j : Int))))
      have G2 := gr_set (p := ⟨g, j, none⟩) hG (.inl rfl) (.int .i64 ((k : Int) + (j : Int)))
      have HT := hid (show (ys.set j (.int .i64 ((k : Int) + (j : Int)))).take (j + 1) = ints (nums k (j + 1)) by rw [nums_next]; exact take_set_nextI HYt.out (by rw [HYl.out]; exact hlt) (by rw [q1]))
      have i1 : IntKind.i64.wrap ((k : Int) + (j : Int) + 1) = (k : Int) + (j : Int) + 1 := IntWalk.i64_in _ (by omega)
      clear q1 hcA FA hO hG
      go_wp2_with fail
      go_roundw
      case rel => exact ⟨j + 1, ys.set j (.int .i64 ((k : Int) + (j : Int))), by first | rfl | (congr 1; omega) | (congr 1; simp; omega), by go_num, by omega, by rw [List.length_set]; exact HYl.out, HT.out, HO2.out, G2⟩
      case measure => simp [intOf]; omega
    · obtain rfl : j = n := by omega
      have HE := hid (show ys = ints (nums k j) by rw [← HYt.out, List.take_of_length_le (by rw [HYl.out]; exact Nat.le_refl _)])
      go_wp2_with fail
      go_ret
      exact ⟨by first | rfl | (congr 2), by rw [← HE.out]; exact hO, hG⟩

set_option maxHeartbeats 1000000 in
theorem heldi_any (A : Option Addr) (n c k : Nat) (w : World) (h : Lies w A (ints (nums k n))) (hc : n ≤ c) (hm : c ≤ maxLen) (hn : n ≤ 1048576) (hk : k ≤ 100) :
    Calls Try.prog 39 #[.slice A n c, .int .i64 (k : Int)] w fun e w' => e = .returned (.int .i64 ((k + n : Nat) : Int)) ∧ w.grownBy w' none := by
  unfold maxLen at hm
  go_enter Try.func39, Try.ntmps39
  go_wp2_with fail
  go_loopw [1, 5] (fun kv iv wr => ∃ j : Nat, kv = .int .i64 ((k : Int) + (j : Int)) ∧ iv = .int .i64 (j : Int) ∧ j ≤ n ∧ w.grownBy wr none) (fun _ iv _ => n - (intOf iv).toNat)
  case atStart => exact ⟨0, by first | rfl | simp, rfl, by omega, gr_refl _ _⟩
  case round =>
    obtain ⟨j, rfl, rfl, hjn, hG⟩ := hrel
    by_cases hlt : j < n
    · have hjl : j < (nums k n).length := by rw [nums_len]; exact hlt
      obtain ⟨g, o, rfl, hg, hcell⟩ := h.open_ (by rw [ints_len, nums_len]; omega)
      have cx := hG.cell (intAt hcell hjl) (by simp)
      rw [nums_at] at cx
      have q1 : ((k + j : Nat) : Int) = (k : Int) + (j : Int) := by omega
      rw [q1] at cx
      have b1 : (0 : Int) ≤ (j : Int) := by omega
      have b2 : (j : Int) < (n : Int) := by omega
      have qx : ((k : Int) + (j : Int) != (k : Int) + (j : Int)) = false := by simp
      have i1 : IntKind.i64.wrap ((k : Int) + (j : Int) + 1) = (k : Int) + (j : Int) + 1 := IntWalk.i64_in _ (by omega)
      clear q1 hcell
      go_wp2_with fail
      go_roundw
      case rel => exact ⟨j + 1, by first | rfl | (congr 1; omega) | (congr 1; simp; omega), by go_num, by omega, hG⟩
      case measure => simp [intOf]; omega
    · obtain rfl : j = n := by omega
      go_wp2_with fail
      go_ret
      exact ⟨by first | rfl | (congr 2), hG⟩
end Go.Proofs.Ytmjficimnkbonaa
