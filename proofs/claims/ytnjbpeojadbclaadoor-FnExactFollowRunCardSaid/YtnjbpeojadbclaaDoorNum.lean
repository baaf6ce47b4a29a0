/- Numbers in digits: impl's numberFrom (at most 999), spec's l1Number. -/
import Derived.Test.YtnjbpeojadbclaaDoorName
namespace Go.Proofs.YtnjbpeojadbclaaDoor
open Go.RowKit

theorem numV_next (s : ByteArray) {k : Nat} (h : k < s.size) : numV (s.data.toList.take (k + 1)) = 10 * numV (s.data.toList.take k) + (s[k].toNat - 48) := by
  rw [List.take_succ_eq_append_getElem (by simpa using h), numV_snoc]
  rfl
theorem digits_next (s : ByteArray) {k : Nat} (h : k < s.size) (h1 : (s.data.toList.take k).all digit = true) (h2 : digit s[k] = true) : (s.data.toList.take (k + 1)).all digit = true := by
  rw [List.take_succ_eq_append_getElem (by simpa using h), List.all_append, h1]
  have h3 : digit s.data[k] = true := h2
  simpa using h3
theorem digits_not (s : ByteArray) {k : Nat} (h : k < s.size) (h2 : digit s[k] = false) : s.data.toList.all digit = false := by
  rw [List.all_eq_false]
  refine ⟨s[k], ?_, by simp [h2]⟩
  show s.data[k] ∈ _
  simp
theorem digit_cases (c : UInt8) : ((c.toNat : Int) < 48 ∧ digit c = false) ∨ ((48 : Int) ≤ c.toNat ∧ (57 : Int) < c.toNat ∧ digit c = false) ∨ ((48 : Int) ≤ c.toNat ∧ (c.toNat : Int) ≤ 57 ∧ digit c = true) := by
  rcases (by omega : c.toNat < 48 ∨ (48 ≤ c.toNat ∧ 57 < c.toNat) ∨ (48 ≤ c.toNat ∧ c.toNat ≤ 57)) with h | ⟨h, h'⟩ | ⟨h, h'⟩
  · exact .inl ⟨by omega, by simp [digit]; omega⟩
  · exact .inr (.inl ⟨by omega, by omega, by simp [digit]; omega⟩)
  · exact .inr (.inr ⟨by omega, by omega, by simp [digit]; omega⟩)
theorem num_not {l : List UInt8} (h : l.all digit = false) : numB l = false := by
  rw [Bool.eq_false_iff]
  intro e
  rw [(numB_iff.1 e).2.2.1] at h
  cases h
theorem num_big {l : List UInt8} {k : Nat} (h : 999 < numV (l.take k)) : numB l = false := by
  rw [Bool.eq_false_iff]
  intro e
  have h1 := (numB_iff.1 e).2.2.2
  have h2 := numV_take l k
  omega
theorem num_none {l : List UInt8} (h : l.length < 1) : numB l = false := by
  rw [Bool.eq_false_iff]
  intro e
  have h1 := (numB_iff.1 e).1
  omega
theorem num_zero {s : ByteArray} (h : 1 < s.size) (h0 : s[0] = 48) : numB s.data.toList = false := by
  rw [Bool.eq_false_iff]
  intro e
  rcases (numB_iff.1 e).2.1 with h1 | h1
  · simp at h1
    omega
  · refine h1 ?_
    rw [List.getElem?_eq_getElem (by simp; omega)]
    exact congrArg some h0

/-- What numberFrom leaves. -/
def NfEnds (l : List UInt8) (b : Bool) (w : World) (e : Ending) (w' : World) : Prop := e = .returned (.tuple #[.int .i64 (if b = true then (numV l : Int) else 0), .bool b]) ∧ w = w'

set_option maxHeartbeats 1000000 in
theorem nf_is (s : ByteArray) (b : Bool) (w : World) (hs : s.size ≤ maxLen) (hb : numB s.data.toList = b) :
    Calls Tryd.prog 47 #[.string s, .int .i64 999] w (NfEnds s.data.toList b w) := by
  unfold maxLen at hs
  have HB := hid hb
  clear hb
  by_cases h0 : s.size < 1
  · have hl := size0 s (by omega)
    obtain rfl : b = false := by rw [← HB.out]; exact num_none (by simpa using h0)
    go_enter Tryd.func47, Tryd.ntmps47
    go_wp2_with fail
    go_ret2
    exact ⟨rfl, rfl⟩
  have hl := size1 s (by omega)
  have b0 : (0 : Int) < (s.size : Int) := by omega
  by_cases hz : 1 < s.size ∧ s[0]'(by omega) = 48
  · obtain ⟨hz1, hz2⟩ := hz
    obtain rfl : b = false := by rw [← HB.out]; exact num_zero hz1 hz2
    go_enter Tryd.func47, Tryd.ntmps47
    go_wp2_with fail
    go_ret2
    exact ⟨rfl, rfl⟩
  have hcase : s.size = 1 ∨ (1 < s.size ∧ s[0]'(by omega) ≠ 48) := by
    by_cases h1 : 1 < s.size
    · exact .inr ⟨h1, fun e => hz ⟨h1, e⟩⟩
    · exact .inl (by omega)
  have HZ := hid (show s.data.toList.length ≤ 1 ∨ s.data.toList[0]? ≠ some 48 by
    rcases hcase with h | ⟨h1, h2⟩
    · exact .inl (by simp [h])
    · refine .inr fun e => h2 ?_
      rw [List.getElem?_eq_getElem (by simp; omega)] at e
      exact Option.some.inj e)
  clear hz
  replace hcase : s.size = 1 ∨ (1 < s.size ∧ (((s[0]'(by omega)).toNat : Int) == 48) = false) := by
    rcases hcase with h | ⟨h1, h2⟩
    · exact .inl h
    · refine .inr ⟨h1, ?_⟩
      have : (s[0]'(by omega)).toNat ≠ 48 := fun e => h2 (UInt8.toNat_inj.1 e)
      simp
      omega
  rcases hcase with h1 | ⟨h1, h2⟩
  all_goals
    go_enter Tryd.func47, Tryd.ntmps47
    go_wp2_with fail
    go_loop [6, 7] (fun v i => ∃ k m : Nat, k ≤ s.size ∧ i = .int .i64 k ∧ v = .int .i64 m ∧ numV (s.data.toList.take k) = m ∧ m ≤ 999 ∧ (s.data.toList.take k).all digit = true) (fun v i => s.size - (intOf i).toNat)
    case atStart => exact ⟨0, 0, by omega, rfl, rfl, rfl, by omega, rfl⟩
    case round =>
      obtain ⟨k, m, hk, rfl, rfl, hv, hm, hall⟩ := hrel
      have HA := hid hall
      have HV := hid hv
      clear hall hv
      by_cases hlt : k < s.size
      · rcases digit_cases s[k] with ⟨c1, c2⟩ | ⟨c1, c1', c2⟩ | ⟨c1, c1', c2⟩
        · obtain rfl : b = false := by rw [← HB.out]; exact num_not (digits_not s hlt c2)
          clear c2
          go_wp2_with fail
          go_ret2
          exact ⟨rfl, rfl⟩
        · obtain rfl : b = false := by rw [← HB.out]; exact num_not (digits_not s hlt c2)
          clear c2
          go_wp2_with fail
          go_ret2
          exact ⟨rfl, rfl⟩
        · have HC := hid c2
          have HN := hid (numV_next s hlt)
          obtain ⟨q, hq⟩ : ∃ q : Nat, (s[k].toNat : Int) - 48 = (q : Int) := ⟨s[k].toNat - 48, by omega⟩
          have hq9 : q ≤ 9 := by omega
          have i1 : IntKind.u8.wrap ((s[k].toNat : Int) - 48) = (q : Int) := by rw [hq]; exact IntWalk.u8_in _ (by omega)
          have i2 : IntKind.i64.wrap (q : Int) = (q : Int) := IntWalk.i64_in _ (by omega)
          have i3 : IntKind.i64.wrap ((m : Int) * 10) = (m : Int) * 10 := IntWalk.i64_in _ (by omega)
          have i4 : IntKind.i64.wrap ((m : Int) * 10 + (q : Int)) = (m : Int) * 10 + (q : Int) := IntWalk.i64_in _ (by omega)
          have HQ := hid hq
          clear c2 hq
          by_cases hbig : 999 < m * 10 + q
          · have t1 : (999 : Int) < (m : Int) * 10 + (q : Int) := by omega
            obtain rfl : b = false := by
              rw [← HB.out]
              refine num_big (k := k + 1) ?_
              have := HN.out
              have := HV.out
              have := HQ.out
              omega
            go_wp2_with fail
            go_ret2
            exact ⟨rfl, rfl⟩
          · have t1 : ¬ (999 : Int) < (m : Int) * 10 + (q : Int) := by omega
            have HV2 := hid (show numV (s.data.toList.take (k + 1)) = m * 10 + q by
              have := HN.out
              have := HV.out
              have := HQ.out
              omega)
            go_wp2_with fail
            go_round
            case rel => exact ⟨k + 1, m * 10 + q, by omega, by go_num, by go_num, HV2.out, by omega, digits_next s hlt HA.out HC.out⟩
            case measure => simp [intOf]; omega
      · obtain rfl : k = s.size := by omega
        have ht : s.data.toList.take s.size = s.data.toList := List.take_of_length_le (by simp)
        have HT := hid ht
        clear ht
        obtain rfl : b = true := by
          rw [← HB.out]
          refine numB_iff.2 ⟨by simp; omega, HZ.out, ?_, ?_⟩
          · have := HA.out
            rw [HT.out] at this
            exact this
          · have := HV.out
            rw [HT.out] at this
            omega
        have HV2 := hid (show (m : Int) = (numV s.data.toList : Int) by
          have := HV.out
          rw [HT.out] at this
          omega)
        go_wp2_with fail
        go_ret2
        refine ⟨?_, rfl⟩
        rw [if_pos rfl, ← HV2.out]
        rfl

/-- What spec's l1Number reckons. -/
def l1N (l : List UInt8) : Int := if (1 ≤ l.length ∧ l.length ≤ 5) ∧ l.all digit = true then (numV l : Int) else -1
theorem l1N_len {l : List UInt8} (h : l.length < 1 ∨ 5 < l.length) : l1N l = -1 := by
  rw [l1N, if_neg (by omega)]
theorem l1N_not {l : List UInt8} (h : l.all digit = false) : l1N l = -1 := by
  rw [l1N, if_neg (by simp [h])]
theorem l1N_yes {l : List UInt8} (h1 : 1 ≤ l.length) (h2 : l.length ≤ 5) (h : l.all digit = true) : l1N l = (numV l : Int) := by
  rw [l1N, if_pos ⟨⟨h1, h2⟩, h⟩]

set_option maxHeartbeats 1000000 in
theorem l1n_is (s : ByteArray) (r : Int) (w : World) (hs : s.size ≤ maxLen) (hr : l1N s.data.toList = r) :
    Calls Tryd.prog 40 #[.string s] w fun e w' => e = .returned (.int .i64 r) ∧ w = w' := by
  unfold maxLen at hs
  have HR := hid hr
  clear hr
  obtain ⟨b, hb⟩ : ∃ b, inR s.size 1 5 = b := ⟨_, rfl⟩
  have e1 := fun w => in_is s.size 1 5 b w hb
  have HB := hid hb
  clear hb
  cases b with
  | false =>
    obtain rfl : r = -1 := by
      rw [← HR.out]
      refine l1N_len ?_
      have h1 := HB.out
      have h2 : s.data.toList.length = s.size := by simp
      rw [h2]
      simp only [inR, decide_eq_false_iff_not] at h1
      omega
    go_enter Tryd.func40, Tryd.ntmps40
    go_wp2_with fail
    refine (e1 _).mono ?_
    rintro e w1 ⟨rfl, rfl⟩
    go_wp2_with fail
    go_ret
    exact ⟨rfl, rfl⟩
  | true =>
    have hsz : 1 ≤ s.size ∧ s.size ≤ 5 := by
      have := HB.out
      simp only [inR, decide_eq_true_eq] at this
      omega
    obtain ⟨hs1, hs5⟩ := hsz
    go_enter Tryd.func40, Tryd.ntmps40
    go_wp2_with fail
    refine (e1 _).mono ?_
    rintro e w1 ⟨rfl, rfl⟩
    go_wp2_with fail
    go_loop [3, 4] (fun v i => ∃ k m : Nat, k ≤ s.size ∧ i = .int .i64 k ∧ v = .int .i64 m ∧ numV (s.data.toList.take k) = m ∧ m < 10 ^ k ∧ (s.data.toList.take k).all digit = true) (fun v i => s.size - (intOf i).toNat)
    case atStart => exact ⟨0, 0, by omega, rfl, rfl, rfl, by decide, rfl⟩
    case round =>
      obtain ⟨k, m, hk, rfl, rfl, hv, hm, hall⟩ := hrel
      have HA := hid hall
      have HV := hid hv
      have HM := hid hm
      clear hall hv hm
      by_cases hlt : k < s.size
      · rcases digit_cases s[k] with ⟨c1, c2⟩ | ⟨c1, c1', c2⟩ | ⟨c1, c1', c2⟩
        · obtain rfl : r = -1 := by rw [← HR.out]; exact l1N_not (digits_not s hlt c2)
          clear c2
          go_wp2_with fail
          go_ret
          exact ⟨rfl, rfl⟩
        · obtain rfl : r = -1 := by rw [← HR.out]; exact l1N_not (digits_not s hlt c2)
          clear c2
          go_wp2_with fail
          go_ret
          exact ⟨rfl, rfl⟩
        · have HC := hid c2
          have HN := hid (numV_next s hlt)
          have hm4 : m < 10000 := Nat.lt_of_lt_of_le HM.out (Nat.pow_le_pow_right (by decide) (show k ≤ 4 by omega))
          obtain ⟨q, hq⟩ : ∃ q : Nat, (s[k].toNat : Int) - 48 = (q : Int) := ⟨s[k].toNat - 48, by omega⟩
          have hq9 : q ≤ 9 := by omega
          have i1 : IntKind.u8.wrap ((s[k].toNat : Int) - 48) = (q : Int) := by rw [hq]; exact IntWalk.u8_in _ (by omega)
          have i2 : IntKind.i64.wrap (q : Int) = (q : Int) := IntWalk.i64_in _ (by omega)
          have i3 : IntKind.i64.wrap (10 * (m : Int)) = 10 * (m : Int) := IntWalk.i64_in _ (by omega)
          have i4 : IntKind.i64.wrap (10 * (m : Int) + (q : Int)) = 10 * (m : Int) + (q : Int) := IntWalk.i64_in _ (by omega)
          have HQ := hid hq
          have HV2 := hid (show numV (s.data.toList.take (k + 1)) = 10 * m + q by
            have := HN.out
            have := HV.out
            have := HQ.out
            omega)
          have HM2 := hid (show 10 * m + q < 10 ^ (k + 1) by
            have := HM.out
            rw [Nat.pow_succ]
            omega)
          clear c2 hq
          go_wp2_with fail
          go_round
          case rel => exact ⟨k + 1, 10 * m + q, by omega, by go_num, by go_num, HV2.out, HM2.out, digits_next s hlt HA.out HC.out⟩
          case measure => simp [intOf]; omega
      · obtain rfl : k = s.size := by omega
        have ht : s.data.toList.take s.size = s.data.toList := List.take_of_length_le (by simp)
        obtain rfl : r = (m : Int) := by
          have h1 := HA.out
          have h2 := HV.out
          rw [ht] at h1 h2
          rw [← HR.out, l1N_yes (by simpa using hs1) (by simpa using hs5) h1, h2]
        clear ht
        go_wp2_with fail
        go_ret
        exact ⟨rfl, rfl⟩
end Go.Proofs.YtnjbpeojadbclaaDoor
