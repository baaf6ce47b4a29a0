/- Checkpoints: what is valid, in impl and in spec. -/
import Derived.Test.YtjhkmgoephmbpaaInts
import Derived.Test.YtjhkmgoephmbpaaIn
import Derived.BigQuiet
import Derived.Deep.QuietTactic
namespace Go.Proofs.Ytjhkmgoephmbpaa
open Go.RowKit

def ckB (d : Int) (xs : List Int) : Bool := decide (0 ≤ d ∧ d ≤ 100) && decide (xs.length ≤ 8) && asc d 99 xs
theorem ckB_done (d : Int) (xs : List Int) (h : d < 0 ∨ 100 < d) : ckB d xs = false := by
  simp only [ckB, decide_eq_false (by omega : ¬ (0 ≤ d ∧ d ≤ 100)), Bool.false_and]
theorem ckB_len (d : Int) (xs : List Int) (h : 8 < xs.length) : ckB d xs = false := by
  simp only [ckB, decide_eq_false (by omega : ¬ xs.length ≤ 8), Bool.and_false, Bool.false_and]
theorem ckB_asc (d : Int) (xs : List Int) (h1 : 0 ≤ d) (h2 : d ≤ 100) (h : xs.length ≤ 8) : ckB d xs = asc d 99 xs := by
  simp only [ckB, decide_eq_true (by omega : (0 ≤ d ∧ d ≤ 100)), decide_eq_true h, Bool.true_and]
theorem ckB_not (d : Int) (xs : List Int) (h : asc d 99 xs = false) : ckB d xs = false := by
  simp only [ckB, h, Bool.and_false]
theorem ckB_parts {d : Int} {xs : List Int} (h : ckB d xs = true) : (0 ≤ d ∧ d ≤ 100) ∧ xs.length ≤ 8 ∧ asc d 99 xs = true := by
  simp only [ckB, Bool.and_eq_true, decide_eq_true_eq] at h
  exact ⟨h.1.1, h.1.2, h.2⟩

set_option maxHeartbeats 1000000 in
theorem ckv_any (d : Int) (A : Option Addr) (c : Nat) (xs : List Int) (w : World) (h : Lies w A (ints xs)) (hc : xs.length ≤ c) (hm : c ≤ maxLen) :
    Calls Try.prog 13 #[.agg #[.int .i64 d, .slice A xs.length c]] w fun e w' => e = .returned (.bool (ckB d xs)) ∧ w.grownBy w' none := by
  unfold maxLen at hm
  obtain ⟨n, hn⟩ : ∃ n, xs.length = n := ⟨_, rfl⟩
  rw [hn] at hc ⊢
  have HN := hid hn
  rcases (by omega : d < 0 ∨ (0 ≤ d ∧ 100 < d) ∨ (0 ≤ d ∧ d ≤ 100)) with h1 | ⟨h1, h2⟩ | ⟨h1, h2⟩
  · rw [ckB_done d xs (.inl h1)]
    clear hn
    go_enter Try.func13, Try.ntmps13
    go_wp2_with fail
    go_ret
    exact ⟨rfl, gr_alloc (gr_refl _ _) _⟩
  · rw [ckB_done d xs (.inr h2)]
    clear hn
    go_enter Try.func13, Try.ntmps13
    go_wp2_with fail
    go_ret
    exact ⟨rfl, gr_alloc (gr_refl _ _) _⟩
  rcases (by omega : 8 < n ∨ n ≤ 8) with h3 | h3
  · rw [ckB_len d xs (by rw [hn]; exact h3)]
    clear hn
    go_enter Try.func13, Try.ntmps13
    go_wp2_with fail
    go_ret
    exact ⟨rfl, gr_alloc (gr_refl _ _) _⟩
  have HE := hid (ckB_asc d xs h1 h2 (by rw [hn]; exact h3))
  clear hn
  have hL := h.alloc (.cells #[.int .i64 d, .slice A n c] 25)
  go_enter Try.func13, Try.ntmps13
  go_wp2_with fail
  go_loop [3, 25] (fun v i => ∃ k : Nat, i = .int .i64 k ∧ v = .int .i64 (lastOf d (xs.take k)) ∧ k ≤ n ∧ asc d 99 (xs.take k) = true) (fun _ i => n - (intOf i).toNat)
  case atStart => exact ⟨0, rfl, rfl, by omega, rfl⟩
  case round =>
    obtain ⟨k, rfl, rfl, hkn, hasc⟩ := hrel
    have HA := hid hasc
    clear hasc
    by_cases hlt : k < n
    · have hkl : k < xs.length := by rw [HN.out]; exact hlt
      obtain ⟨g, o, hA, _, hcell⟩ := hL.open_ (by rw [ints_len]; omega)
      obtain rfl := hA
      have cx := intAt hcell hkl
      clear hcell
      obtain ⟨x, hx⟩ : ∃ x, xs[k] = x := ⟨_, rfl⟩
      obtain ⟨v, hv⟩ : ∃ v, lastOf d (xs.take k) = v := ⟨_, rfl⟩
      rw [hx] at cx
      rw [hv]
      have HX := hid hx
      have HV := hid hv
      clear hx hv
      rcases (by omega : x ≤ v ∨ (v < x ∧ 99 < x) ∨ (v < x ∧ x ≤ 99)) with q | ⟨q, q'⟩ | ⟨q, q'⟩
      · have HF := hid (asc_not (lo := d) (hi := 99) hkl (by rw [HX.out, HV.out]; exact .inl q))
        go_wp2_with fail
        go_ret
        exact ⟨ret_bool (by rw [HE.out, HF.out]), gr_alloc (gr_refl _ _) _⟩
      · have HF := hid (asc_not (lo := d) (hi := 99) hkl (by rw [HX.out, HV.out]; exact .inr q'))
        go_wp2_with fail
        go_ret
        exact ⟨ret_bool (by rw [HE.out, HF.out]), gr_alloc (gr_refl _ _) _⟩
      · have HF := hid (asc_next hkl HA.out (by rw [HX.out, HV.out]; exact q) (by rw [HX.out]; exact q'))
        have HG := hid (last_take d xs k hkl)
        go_wp2_with fail
        go_round
        case rel => exact ⟨k + 1, by go_num, by rw [HG.out, HX.out], by omega, HF.out⟩
        case measure => simp [intOf]; omega
    · obtain rfl : k = n := by omega
      go_wp2_with fail
      go_ret
      exact ⟨ret_bool (by rw [HE.out]; exact (asc_all (by rw [HN.out]; exact HA.out)).symm), gr_alloc (gr_refl _ _) _⟩
theorem ckv_is (d : Int) (A : Option Addr) (n c : Nat) (xs : List Int) (b : Bool) (w : World) (h : Lies w A (ints xs)) (hn : xs.length = n) (hc : n ≤ c) (hm : c ≤ maxLen) (hb : ckB d xs = b) :
    Calls Try.prog 13 #[.agg #[.int .i64 d, .slice A n c]] w fun e w' => e = .returned (.bool b) ∧ w.grownBy w' none := by
  subst hn hb
  exact ckv_any d A c xs w h hc hm
end Go.Proofs.Ytjhkmgoephmbpaa
