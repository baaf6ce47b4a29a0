/- Words of 1 to 6 small letters: impl's wordValid and spec's l1Word. -/
import Derived.Test.YtnjbpeojadbclaaDoorIn
namespace Go.Proofs.YtnjbpeojadbclaaDoor
open Go.RowKit

def letter (c : UInt8) : Bool := decide (97 ≤ c.toNat ∧ c.toNat ≤ 122)
def wordB (s : ByteArray) : Bool := decide (1 ≤ s.size) && decide (s.size ≤ 6) && s.data.toList.all letter

theorem take_all_next (s : ByteArray) (k : Nat) (h : k < s.size) (h1 : (s.data.toList.take k).all letter = true) (h2 : letter s[k] = true) : (s.data.toList.take (k + 1)).all letter = true := by
  rw [List.take_succ_eq_append_getElem (by simpa using h), List.all_append, h1]
  have h3 : letter s.data[k] = true := h2
  simpa using h3
theorem all_not (s : ByteArray) (k : Nat) (h : k < s.size) (h2 : letter s[k] = false) : s.data.toList.all letter = false := by
  rw [List.all_eq_false]
  refine ⟨s[k], ?_, by simp [h2]⟩
  show s.data[k] ∈ _
  simp
theorem word_not (s : ByteArray) (k : Nat) (h : k < s.size) (h2 : letter s[k] = false) : wordB s = false := by
  simp only [wordB, all_not s k h h2, Bool.and_false]
theorem word_yes (s : ByteArray) (h1 : 1 ≤ s.size) (h2 : s.size ≤ 6) (h : (s.data.toList.take s.size).all letter = true) : wordB s = true := by
  rw [List.take_of_length_le (by simp)] at h
  simp only [wordB, h]
  simp [h1, h2]
theorem word_size (s : ByteArray) (h : s.size < 1 ∨ 6 < s.size) : wordB s = false := by
  simp only [wordB]
  rcases h with h | h
  · simp [show ¬ 1 ≤ s.size by omega]
  · simp [show ¬ s.size ≤ 6 by omega]
theorem word_len (s : ByteArray) (h : wordB s = true) : 1 ≤ s.size ∧ s.size ≤ 6 ∧ s.data.toList.all letter = true := by
  simp only [wordB, Bool.and_eq_true, decide_eq_true_eq] at h
  exact ⟨h.1.1, h.1.2, h.2⟩
theorem letter_cases (c : UInt8) : ((c.toNat : Int) < 97 ∧ letter c = false) ∨ ((97 : Int) ≤ c.toNat ∧ (122 : Int) < c.toNat ∧ letter c = false) ∨ ((97 : Int) ≤ c.toNat ∧ (c.toNat : Int) ≤ 122 ∧ letter c = true) := by
  rcases (by omega : c.toNat < 97 ∨ (97 ≤ c.toNat ∧ 122 < c.toNat) ∨ (97 ≤ c.toNat ∧ c.toNat ≤ 122)) with h | ⟨h, h'⟩ | ⟨h, h'⟩
  · exact .inl ⟨by omega, by simp [letter]; omega⟩
  · exact .inr (.inl ⟨by omega, by omega, by simp [letter]; omega⟩)
  · exact .inr (.inr ⟨by omega, by omega, by simp [letter]; omega⟩)

theorem app_data (s t : ByteArray) : (s ++ t).data.toList = s.data.toList ++ t.data.toList := by
  rw [ByteArray.data_append, Array.toList_append]
theorem app_size (s t : ByteArray) : (s ++ t).size = s.size + t.size := ByteArray.size_append
/-- A text with a sign that is no small letter is no word. -/
theorem word_app (s t : ByteArray) (h : t.data.toList.all letter = false) : wordB (s ++ t) = false := by
  simp only [wordB, app_data, List.all_append, h, Bool.and_false]
theorem size0 (s : ByteArray) (h : s.size = 0) : s.toList = [] := by
  rw [ByteArray.toList_eq]
  exact List.eq_nil_of_length_eq_zero (by simpa using h)
theorem size1 (s : ByteArray) (h : 1 ≤ s.size) : s.toList.isEmpty = false := by
  rw [ByteArray.toList_eq]
  cases hl : s.data.toList with
  | nil => have : s.size = 0 := by simpa using congrArg List.length hl
           omega
  | cons a l => rfl

set_option maxHeartbeats 400000 in
theorem word_any (s : ByteArray) (w : World) (hs : s.size ≤ maxLen) :
    Calls Tryd.prog 44 #[.string s] w fun e w' => e = .returned (.bool (wordB s)) ∧ w = w' := by
  unfold maxLen at hs
  rcases (by omega : s.size < 1 ∨ 6 < s.size ∨ (1 ≤ s.size ∧ s.size ≤ 6)) with h1 | h1 | ⟨h1, h2⟩
  · rw [word_size s (.inl h1)]
    go_enter Tryd.func44, Tryd.ntmps44
    go_wp2_with fail
    go_ret
    exact ⟨rfl, rfl⟩
  · rw [word_size s (.inr h1)]
    go_enter Tryd.func44, Tryd.ntmps44
    go_wp2_with fail
    go_ret
    exact ⟨rfl, rfl⟩
  · go_enter Tryd.func44, Tryd.ntmps44
    go_wp2_with fail
    go_loop [3] (fun i => ∃ k : Nat, k ≤ s.size ∧ i = .int .i64 k ∧ (s.data.toList.take k).all letter = true) (fun i => s.size - (intOf i).toNat)
    case atStart => exact ⟨0, by omega, rfl, rfl⟩
    case round =>
      obtain ⟨k, hk, rfl, hall⟩ := hrel
      have HA := hid hall
      clear hall
      by_cases hlt : k < s.size
      · rcases letter_cases s[k] with ⟨c1, c2⟩ | ⟨c1, c1', c2⟩ | ⟨c1, c1', c2⟩
        · have HC := hid c2
          clear c2
          go_wp2_with fail
          go_ret
          exact ⟨ret_bool (word_not s k hlt HC.out).symm, rfl⟩
        · have HC := hid c2
          clear c2
          go_wp2_with fail
          go_ret
          exact ⟨ret_bool (word_not s k hlt HC.out).symm, rfl⟩
        · have HC := hid c2
          clear c2
          go_wp2_with fail
          go_round
          case rel => exact ⟨k + 1, by omega, by go_num, take_all_next s k hlt HA.out HC.out⟩
          case measure => simp [intOf]; omega
      · obtain rfl : k = s.size := by omega
        have HW := hid (word_yes s h1 h2 HA.out)
        clear HA
        go_wp2_with fail
        go_ret
        exact ⟨ret_bool HW.out.symm, rfl⟩
theorem word_is (s : ByteArray) (b : Bool) (w : World) (hs : s.size ≤ maxLen) (h : wordB s = b) :
    Calls Tryd.prog 44 #[.string s] w fun e w' => e = .returned (.bool b) ∧ w = w' := h ▸ word_any s w hs

set_option maxHeartbeats 400000 in
theorem sword_any (s : ByteArray) (w : World) (hs : s.size ≤ maxLen) :
    Calls Tryd.prog 36 #[.string s] w fun e w' => e = .returned (.bool (wordB s)) ∧ w = w' := by
  unfold maxLen at hs
  go_enter Tryd.func36, Tryd.ntmps36
  go_wp2_with fail
  go_loop [3] (fun i => ∃ k : Nat, k ≤ s.size ∧ i = .int .i64 k ∧ (s.data.toList.take k).all letter = true) (fun i => s.size - (intOf i).toNat)
  case atStart => exact ⟨0, by omega, rfl, rfl⟩
  case round =>
    obtain ⟨k, hk, rfl, hall⟩ := hrel
    have HA := hid hall
    clear hall
    by_cases hlt : k < s.size
    · rcases letter_cases s[k] with ⟨c1, c2⟩ | ⟨c1, c1', c2⟩ | ⟨c1, c1', c2⟩
      · have HC := hid c2
        clear c2
        go_wp2_with fail
        go_ret
        exact ⟨ret_bool (word_not s k hlt HC.out).symm, rfl⟩
      · have HC := hid c2
        clear c2
        go_wp2_with fail
        go_ret
        exact ⟨ret_bool (word_not s k hlt HC.out).symm, rfl⟩
      · have HC := hid c2
        clear c2
        go_wp2_with fail
        go_round
        case rel => exact ⟨k + 1, by omega, by go_num, take_all_next s k hlt HA.out HC.out⟩
        case measure => simp [intOf]; omega
    · obtain rfl : k = s.size := by omega
      have HW := hid (show inR s.size 1 6 = wordB s by
        rcases (by omega : (s.size < 1 ∨ 6 < s.size) ∨ (1 ≤ s.size ∧ s.size ≤ 6)) with h | ⟨h1, h2⟩
        · rw [word_size s h, inR_false (by omega)]
        · rw [word_yes s h1 h2 HA.out, inR_true (by omega) (by omega)])
      clear HA
      go_wp2_with fail
      refine (in_any _ _ _ _).mono ?_
      rintro e w1 ⟨rfl, rfl⟩
      go_wp2_with fail
      go_ret
      exact ⟨ret_bool HW.out, rfl⟩
theorem sword_is (s : ByteArray) (b : Bool) (w : World) (hs : s.size ≤ maxLen) (h : wordB s = b) :
    Calls Tryd.prog 36 #[.string s] w fun e w' => e = .returned (.bool b) ∧ w = w' := h ▸ sword_any s w hs
end Go.Proofs.YtnjbpeojadbclaaDoor
