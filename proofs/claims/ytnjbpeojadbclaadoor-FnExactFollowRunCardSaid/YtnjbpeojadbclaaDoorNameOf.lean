/- spec's NameOf, l2At, NameParts. -/
import Derived.Test.YtnjbpeojadbclaaDoorDec
namespace Go.Proofs.YtnjbpeojadbclaaDoor
open Go.RowKit

theorem dec_any (n : Nat) (w : World) (hn : n < 1000) :
    Calls Tryd.prog 45 #[.int .i64 (n : Int)] w fun e w' => e = .returned (.string ⟨(decL n).toArray⟩) ∧ w.grownBy w' none := by
  by_cases h1 : n < 10
  · exact dec1 n w h1
  have two : ∀ (m : Nat) (w : World), m < 100 → Calls Tryd.prog 45 #[.int .i64 (m : Int)] w fun e w' => e = .returned (.string ⟨(decL m).toArray⟩) ∧ w.grownBy w' none := by
    intro m w hm
    by_cases h1 : m < 10
    · exact dec1 m w h1
    · exact decS m w (by omega) (by omega) (fun w => dec1 (m / 10) w (by omega))
  exact decS n w (by omega) hn (fun w => two (n / 10) w (by omega))

/-- The name of a category and a number. -/
def nameF (c : ByteArray) (n : Int) : ByteArray := if wordB c = true ∧ inR n 0 999 = true then c ++ ⟨#[45]⟩ ++ ⟨(decL n.toNat).toArray⟩ else ⟨#[]⟩
theorem nameF_size (c : ByteArray) (n : Int) : (nameF c n).size ≤ 10 := by
  unfold nameF
  split
  · rename_i h
    have h1 := word_len c h.1
    have h2 : (⟨(decL n.toNat).toArray⟩ : ByteArray).size ≤ 3 := by
      show (decL n.toNat).toArray.size ≤ 3
      unfold decL
      split
      · simp
      · split <;> simp
    rw [app_size, app_size]
    have h3 : (⟨#[45]⟩ : ByteArray).size = 1 := rfl
    omega
  · exact Nat.zero_le _

set_option maxHeartbeats 1000000 in
theorem no_is (c : ByteArray) (n : Int) (r : ByteArray) (w : World) (hc : c.size ≤ maxLen) (hr : nameF c n = r) :
    Calls Tryd.prog 41 #[.string c, .int .i64 n] w fun e w' => e = .returned (.string r) ∧ w.grownBy w' none := by
  have HR := hid hr
  obtain ⟨b1, hb1⟩ : ∃ b, wordB c = b := ⟨_, rfl⟩
  obtain ⟨b2, hb2⟩ : ∃ b, inR n 0 999 = b := ⟨_, rfl⟩
  have e1 := fun w => sword_is c b1 w hc hb1
  have e2 := fun w => in_is n 0 999 b2 w hb2
  have HB1 := hid hb1
  have HB2 := hid hb2
  clear hb1 hb2 hr
  go_enter Tryd.func41, Tryd.ntmps41
  go_wp2_with fail
  refine (e1 _).mono ?_
  rintro e w1 ⟨rfl, rfl⟩
  clear e1
  cases b1 with
  | false =>
    obtain rfl : r = ⟨#[]⟩ := by rw [← HR.out, nameF, if_neg (by rw [HB1.out]; simp)]
    go_wp2_with fail
    go_ret
    exact ⟨rfl, gr_refl _ _⟩
  | true =>
  go_wp2_with fail
  refine (e2 _).mono ?_
  rintro e w1 ⟨rfl, rfl⟩
  clear e2
  cases b2 with
  | false =>
    obtain rfl : r = ⟨#[]⟩ := by rw [← HR.out, nameF, if_neg (by rw [HB2.out]; simp)]
    go_wp2_with fail
    go_ret
    exact ⟨rfl, gr_refl _ _⟩
  | true =>
    have hr1 : c ++ ⟨#[45]⟩ ++ ⟨(decL n.toNat).toArray⟩ = r := by rw [← HR.out, nameF, if_pos ⟨HB1.out, HB2.out⟩]
    have hn : 0 ≤ n ∧ n ≤ 999 := by
      have := HB2.out
      simp only [inR, decide_eq_true_eq] at this
      exact this
    obtain ⟨m, rfl⟩ : ∃ m : Nat, n = (m : Int) := ⟨n.toNat, by omega⟩
    have e3 := fun w => dec_any m w (by omega)
    rw [Int.toNat_natCast] at hr1
    have hz : (⟨(decL m).toArray⟩ : ByteArray).size ≤ 3 := by
      show (decL m).toArray.size ≤ 3
      unfold decL
      split
      · simp
      · split <;> simp
    obtain ⟨x, hx⟩ : ∃ x, (⟨(decL m).toArray⟩ : ByteArray) = x := ⟨_, rfl⟩
    rw [hx] at hr1 hz
    simp only [hx] at e3
    have h6 := (word_len c HB1.out).2.1
    have HR1 := hid hr1
    have s1 : ¬ 9223372036854775807 < c.size + 1 := by omega
    have s2 : ¬ 9223372036854775807 < c.size + 1 + x.size := by omega
    clear hx hr1 HR
    go_wp2_with fail
    refine (e3 _).mono ?_
    rintro e w2 ⟨rfl, hg2⟩
    go_wp2_with fail
    go_ret
    exact ⟨by rw [← HR1.out]; rfl, hg2⟩

theorem hy_take {s : ByteArray} {k : Nat} (h : k < s.size) (h1 : ∀ c ∈ s.data.toList.take k, c ≠ 45) (h2 : s[k] ≠ 45) : ∀ c ∈ s.data.toList.take (k + 1), c ≠ 45 := by
  rw [List.take_succ_eq_append_getElem (by simpa using h)]
  intro c hc
  rcases List.mem_append.1 hc with hc | hc
  · exact h1 c hc
  · rw [List.mem_singleton.1 hc]
    exact h2
theorem hy_hit {s : ByteArray} {k : Nat} (h : k < s.size) (h1 : ∀ c ∈ s.data.toList.take k, c ≠ 45) (h2 : s[k] = 45) : hyAt s.data.toList = some k := by
  rw [hy_some]
  refine ⟨by simpa using h, h2, fun j hj => h1 _ ?_⟩
  rw [List.mem_take_iff_getElem]
  exact ⟨j, by simp; omega, rfl⟩
/-- The place of the first hyphen, or -1. -/
def hyI (l : List UInt8) : Int := match hyAt l with | some k => (k : Int) | none => -1

set_option maxHeartbeats 1000000 in
theorem l2a_is (s : ByteArray) (r : Int) (w : World) (hs : s.size ≤ maxLen) (hr : hyI s.data.toList = r) :
    Calls Tryd.prog 39 #[.string s] w fun e w' => e = .returned (.int .i64 r) ∧ w = w' := by
  unfold maxLen at hs
  have HR := hid hr
  clear hr
  go_enter Tryd.func39, Tryd.ntmps39
  go_wp2_with fail
  go_loop [3] (fun i => ∃ k : Nat, k ≤ s.size ∧ i = .int .i64 k ∧ ∀ c ∈ s.data.toList.take k, c ≠ 45) (fun i => s.size - (intOf i).toNat)
  case atStart => exact ⟨0, by omega, rfl, by simp⟩
  case round =>
    obtain ⟨k, hk, rfl, hall⟩ := hrel
    have HA := hid hall
    clear hall
    by_cases hlt : k < s.size
    · by_cases q : s[k] = 45
      · obtain rfl : r = (k : Int) := by rw [← HR.out, hyI, hy_hit hlt HA.out q]
        have q1 : ((s[k].toNat : Int) == 45) = true := by rw [q]; rfl
        clear q
        go_wp2_with fail
        go_ret
        exact ⟨rfl, rfl⟩
      · have q1 : ((s[k].toNat : Int) == 45) = false := by
          have : s[k].toNat ≠ 45 := fun e => q (UInt8.toNat_inj.1 e)
          simp
          omega
        have HX := hid (hy_take hlt HA.out q)
        clear q
        go_wp2_with fail
        go_round
        case rel => exact ⟨k + 1, by omega, by go_num, HX.out⟩
        case measure => simp [intOf]; omega
    · obtain rfl : k = s.size := by omega
      obtain rfl : r = -1 := by
        have h1 := HA.out
        rw [List.take_of_length_le (by simp)] at h1
        rw [← HR.out, hyI, hy_none.2 h1]
      go_wp2_with fail
      go_ret
      exact ⟨rfl, rfl⟩
end Go.Proofs.YtnjbpeojadbclaaDoor
