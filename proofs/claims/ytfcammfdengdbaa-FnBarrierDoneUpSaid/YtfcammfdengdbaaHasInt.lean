/- hasInt. -/
import Derived.Test.YtfcammfdengdbaaInts
import Derived.Test.YtfcammfdengdbaaIn
namespace Go.Proofs.Ytfcammfdengdbaa
open Go.RowKit

/-- x is none of the first k. -/
def noneTo (xs : List Int) (x : Int) (k : Nat) : Prop := ∀ y ∈ xs.take k, y ≠ x
theorem noneTo_next {xs : List Int} {x : Int} {k : Nat} (h : noneTo xs x k) (hk : k < xs.length) (hx : xs[k] ≠ x) : noneTo xs x (k + 1) := by
  intro y hy
  rw [List.take_succ_eq_append_getElem hk] at hy
  rcases List.mem_append.1 hy with hy | hy
  · exact h y hy
  · simp at hy
    rw [hy]
    exact hx
theorem noneTo_all {xs : List Int} {x : Int} {k : Nat} (h : noneTo xs x k) (hk : xs.length ≤ k) : x ∉ xs := by
  intro hx
  exact h x (by rw [List.take_of_length_le hk]; exact hx) rfl
set_option maxHeartbeats 1000000 in
theorem hi_any (A : Option Addr) (c : Nat) (xs : List Int) (x : Int) (w : World) (h : Lies w A (ints xs)) (hc : xs.length ≤ c) (hm : c ≤ maxLen) :
    Calls Try.prog 22 #[.slice A xs.length c, .int .i64 x] w fun e w' => e = .returned (.bool (decide (x ∈ xs))) ∧ w = w' := by
  unfold maxLen at hm
  obtain ⟨n, hn⟩ : ∃ n, xs.length = n := ⟨_, rfl⟩
  rw [hn] at hc ⊢
  have HN := hid hn
  clear hn
  go_enter Try.func22, Try.ntmps22
  go_wp2_with fail
  go_loop [5] (fun i => ∃ k : Nat, i = .int .i64 k ∧ k ≤ n ∧ noneTo xs x k) (fun i => n - (intOf i).toNat)
  case atStart => exact ⟨0, rfl, by omega, by intro y hy; simp at hy⟩
  case round =>
    obtain ⟨k, rfl, hkn, hno⟩ := hrel
    have HNo := hid hno
    clear hno
    by_cases hlt : k < n
    · have hkl : k < xs.length := by rw [HN.out]; omega
      obtain ⟨g, o, hA, hg, hcell⟩ := h.open_ (by rw [ints_len]; omega)
      obtain rfl := hA
      have cx := intAt hcell hkl
      clear hcell
      obtain ⟨y, hy⟩ : ∃ y, xs[k] = y := ⟨_, rfl⟩
      rw [hy] at cx
      have HY := hid hy
      clear hy
      rcases (by by_cases h : y = x; exact .inl h; exact .inr h : y = x ∨ y ≠ x) with he | he
      · have he' : (y == x) = true := by simp [he]
        have HE := hid (show decide (x ∈ xs) = true by simp; rw [← he, ← HY.out]; exact List.getElem_mem hkl)
        clear he
        go_wp2_with fail
        go_ret
        exact ⟨ret_bool HE.out.symm, rfl⟩
      · have he' : (y == x) = false := by simp [he]
        have HE := hid (noneTo_next HNo.out hkl (by rw [HY.out]; exact he))
        clear he
        go_wp2_with fail
        go_round
        case rel => exact ⟨k + 1, by go_num, by omega, HE.out⟩
        case measure => simp [intOf]; omega
    · have HE := hid (noneTo_all HNo.out (by rw [HN.out]; omega))
      go_wp2_with fail
      go_ret
      exact ⟨ret_bool (by simp [HE.out]), rfl⟩
theorem hi_is (A : Option Addr) (n c : Nat) (xs : List Int) (x : Int) (b : Bool) (w : World) (h : Lies w A (ints xs)) (hn : xs.length = n) (hc : n ≤ c) (hm : c ≤ maxLen) (hb : decide (x ∈ xs) = b) :
    Calls Try.prog 22 #[.slice A n c, .int .i64 x] w fun e w' => e = .returned (.bool b) ∧ w = w' := by
  subst hn hb
  exact hi_any A c xs x w h hc hm
end Go.Proofs.Ytfcammfdengdbaa
