/- Barriers: what is valid, in impl and in spec. -/
import Derived.Test.YtfcammfdengdbaaInts
import Derived.Test.YtfcammfdengdbaaIn
import Derived.BigQuiet
import Derived.Deep.QuietTactic
import Derived.Deep.RegionHeld3
namespace Go.Proofs.Ytfcammfdengdbaa
open Go.RowKit

def barB (d : Int) (xs : List Int) : Bool := decide (0 ≤ d ∧ d ≤ 100) && asc (-1) (d - 1) xs
theorem barB_next {d : Int} (xs : List Int) (h : d < 0 ∨ 100 < d) : barB d xs = false := by
  rw [barB, decide_eq_false (by omega : ¬ (0 ≤ d ∧ d ≤ 100)), Bool.false_and]
theorem barB_not {d : Int} {xs : List Int} (h : asc (-1) (d - 1) xs = false) : barB d xs = false := by rw [barB, h, Bool.and_false]
theorem barB_yes {d : Int} {xs : List Int} (h1 : 0 ≤ d) (h2 : d ≤ 100) (h : asc (-1) (d - 1) xs = true) : barB d xs = true := by
  rw [barB, h, decide_eq_true ⟨h1, h2⟩]; rfl
theorem barB_parts {d : Int} {xs : List Int} (h : barB d xs = true) : (0 ≤ d ∧ d ≤ 100) ∧ asc (-1) (d - 1) xs = true := by
  simp only [barB, Bool.and_eq_true, decide_eq_true_eq] at h
  exact h

/-- A slice of ints, as an argument. -/
structure IArg (w : World) (A : Option Addr) (n c : Nat) (xs : List Int) : Prop where
  li : Lies w A (ints xs)
  len : xs.length = n
  cap : n ≤ c
  max : c ≤ maxLen
section
variable {w w' : World} {A : Option Addr} {n c : Nat} {xs : List Int}
theorem IArg.grown0 (h : IArg w A n c xs) (hg : w.grownBy w' none) : IArg w' A n c xs := ⟨h.li.grown0 hg, h.len, h.cap, h.max⟩
theorem IArg.of_own {base : Nat} (h : Own w base 3 1 A n c (ints xs)) (hl : xs.length = n) : IArg w A n c xs := ⟨h.lies, hl, h.cap, h.max⟩
theorem IArg.alloc (h : IArg w A n c xs) (o : Obj) : IArg (w.alloc o) A n c xs := h.grown0 (World.grownBy_alloc w o none)
theorem IArg.drewN (h : IArg w A n c xs) (q : Nat) : IArg (w.drewN q) A n c xs := ⟨h.li.drewN q, h.len, h.cap, h.max⟩
end

set_option maxHeartbeats 1000000 in
theorem bv_is (d : Int) (A : Option Addr) (n c : Nat) (xs : List Int) (b : Bool) (w : World) (h : IArg w A n c xs) (hb : barB d xs = b) :
    Calls Try.prog 14 #[.agg #[.int .i64 d, .slice A n c]] w fun e w' => e = .returned (.bool b) ∧ w.grownBy w' none := by
  obtain ⟨hli, hn, hc, hm⟩ := h
  unfold maxLen at hm
  have HN := hid hn
  have HB := hid hb
  have G0 := World.grownBy_alloc w (.cells #[.int .i64 d, .slice A n c] 25) none
  clear hn hb
  rcases (by omega : d < 0 ∨ (0 ≤ d ∧ 100 < d) ∨ (0 ≤ d ∧ d ≤ 100)) with h1 | ⟨h1, h2⟩ | ⟨h1, h2⟩
  · have HF := hid (barB_next xs (.inl h1))
    go_enter Try.func14, Try.ntmps14
    go_wp2_with fail
    go_ret
    exact ⟨ret_bool (by rw [← HB.out, HF.out]), G0⟩
  · have HF := hid (barB_next xs (.inr h2))
    go_enter Try.func14, Try.ntmps14
    go_wp2_with fail
    go_ret
    exact ⟨ret_bool (by rw [← HB.out, HF.out]), G0⟩
  have hL := hli.alloc (.cells #[.int .i64 d, .slice A n c] 25)
  have HG := hid G0
  clear G0 hli
  go_enter Try.func14, Try.ntmps14
  go_wp2_with fail
  go_loop [3, 17] (fun v i => ∃ k : Nat, i = .int .i64 k ∧ v = .int .i64 (lastOf (-1) (xs.take k)) ∧ k ≤ n ∧ asc (-1) (d - 1) (xs.take k) = true) (fun _ i => n - (intOf i).toNat)
  case atStart => exact ⟨0, rfl, rfl, by omega, rfl⟩
  case round =>
    obtain ⟨k, rfl, rfl, hkn, hasc⟩ := hrel
    have HA := hid hasc
    clear hasc
    by_cases hlt : k < n
    · have hkl : k < xs.length := by rw [HN.out]; exact hlt
      obtain ⟨g, o, hA, _, hcell⟩ := hL.open_ (by rw [ints_len]; omega)
      obtain rfl := hA
      have cx := intAt hcell hkl
      clear hcell
      obtain ⟨x, hx⟩ : ∃ x, xs[k] = x := ⟨_, rfl⟩
      obtain ⟨v, hv⟩ : ∃ v, lastOf (-1) (xs.take k) = v := ⟨_, rfl⟩
      rw [hx] at cx
      rw [hv]
      have HX := hid hx
      have HV := hid hv
      clear hx hv
      rcases (by omega : x ≤ v ∨ (v < x ∧ d ≤ x) ∨ (v < x ∧ x < d)) with q | ⟨q, q'⟩ | ⟨q, q'⟩
      · have HF := hid (asc_not (lo := -1) (hi := d - 1) hkl (by rw [HX.out, HV.out]; exact .inl q))
        go_wp2_with fail
        go_ret
        exact ⟨ret_bool (by rw [← HB.out, barB_not HF.out]), HG.out⟩
      · have HF := hid (asc_not (lo := -1) (hi := d - 1) hkl (by rw [HX.out, HV.out]; right; omega))
        go_wp2_with fail
        go_ret
        exact ⟨ret_bool (by rw [← HB.out, barB_not HF.out]), HG.out⟩
      · have HF := hid (asc_next (lo := -1) (hi := d - 1) hkl HA.out (by rw [HX.out, HV.out]; exact q) (by rw [HX.out]; omega))
        have HL := hid ((last_take (-1) xs k hkl).trans HX.out)
        go_wp2_with fail
        go_round
        case rel => exact ⟨k + 1, by go_num, by rw [HL.out], by omega, HF.out⟩
        case measure => simp [intOf]; omega
    · obtain rfl : k = n := by omega
      have HF := hid (barB_yes h1 h2 (asc_all (xs := xs) (by rw [HN.out]; exact HA.out)))
      go_wp2_with fail
      go_ret
      exact ⟨ret_bool (by rw [← HB.out, HF.out]), HG.out⟩

set_option maxHeartbeats 2000000 in
theorem sbv_is (d : Int) (A : Option Addr) (n c : Nat) (xs : List Int) (b : Bool) (w : World) (h : IArg w A n c xs) (hb : barB d xs = b) (hd0 : -1000000 ≤ d) (hd1 : d ≤ 1000000) :
    Calls Try.prog 15 #[.agg #[.int .i64 d, .slice A n c]] w fun e w' => e = .returned (.bool b) ∧ w.grownBy w' none := by
  obtain ⟨hli, hn, hc, hm⟩ := h
  unfold maxLen at hm
  have HN := hid hn
  have HB := hid hb
  clear hn hb
  have hL := hli.alloc (.cells #[.int .i64 d, .slice A n c] 25)
  have wd : IntKind.i64.wrap (d - 1) = d - 1 := IntWalk.i64_in _ (by omega)
  go_enter Try.func15, Try.ntmps15
  go_wp2_with fail
  go_loopw [3] (fun i wr => ∃ k : Nat, i = .int .i64 k ∧ k ≤ n ∧ asc (-1) (d - 1) (xs.take k) = true ∧ (w.alloc (.cells #[.int .i64 d, .slice A n c] 25)).grownBy wr none) (fun i _ => n - (intOf i).toNat)
  case atStart => exact ⟨0, rfl, by omega, rfl, gr_refl _ _⟩
  case round =>
    obtain ⟨k, rfl, hkn, hasc, hgr⟩ := hrel
    have HA := hid hasc
    clear hasc
    have F := (Full.new w 25 #[.int .i64 d, .slice A n c]).grown hgr (by simp)
    have c0 := F.cellAt 0 rfl
    have c1 := F.cellAt 1 rfl
    by_cases hlt : k < n
    · have hkl : k < xs.length := by rw [HN.out]; exact hlt
      obtain ⟨g, o, hA, _, hcell⟩ := (hL.grown0 hgr).open_ (by rw [ints_len]; omega)
      obtain rfl := hA
      have cx := intAt hcell hkl
      obtain ⟨x, hx⟩ : ∃ x, xs[k] = x := ⟨_, rfl⟩
      rw [hx] at cx
      have HX := hid hx
      have hx0 : xs[k] = x := hx
      clear hx
      have b1 : (0 : Int) ≤ (k : Int) := by omega
      have b2 : (k : Int) < (n : Int) := by omega
      have hlast := asc_last HA.out
      have HLst := hid hlast
      clear hlast
      rcases (by omega : (x < 0 ∨ d - 1 < x) ∨ (0 ≤ x ∧ x ≤ d - 1)) with q | ⟨q, q'⟩
      · have i1 := fun w => in_q x 0 (d - 1) false w (inR_false q)
        have HF := hid (asc_not (lo := -1) (hi := d - 1) hkl (by have := HLst.out; rw [HX.out]; omega))
        clear q
        go_wp2_with fail
        go_quiet ((go_at_call 33; exact Calls.quiet_of_same (i1 _)))
        go_wp2_with fail
        go_ret
        exact ⟨ret_bool (by rw [← HB.out, barB_not HF.out]), gr_drewN (gr_trans (World.grownBy_alloc w _ none) hgr) _⟩
      · have i1 := fun w => in_q x 0 (d - 1) true w (inR_true q q')
        rcases (by omega : k = 0 ∨ 1 ≤ k) with h0 | h0
        · have g0 : decide (0 < k) = false := by simp; omega
          have HF := hid (asc_next (lo := -1) (hi := d - 1) hkl HA.out (by subst h0; have := hx0; simp only [List.take_zero, lastOf]; omega) (by rw [HX.out]; exact q'))
          clear h0 hx0
          go_wp2_with fail
          go_quiet ((go_at_call 33; exact Calls.quiet_of_same (i1 _)))
          go_wp2_with fail
          go_roundw
          case rel => exact ⟨k + 1, by go_num, by omega, HF.out, gr_drewN hgr _⟩
          case measure => simp [intOf]; omega
        · have cp := intAt hcell (show k - 1 < xs.length by omega)
          obtain ⟨v, hv⟩ : ∃ v, xs[k - 1] = v := ⟨_, rfl⟩
          rw [hv] at cp
          have HV := hid hv
          clear hv
          have g0 : decide (0 < k) = true := by simp; omega
          have b3 : (0 : Int) ≤ (k : Int) - 1 := by omega
          have b4 : (k : Int) - 1 < (n : Int) := by omega
          have b5 : ((k : Int) - 1).toNat = k - 1 := by omega
          have wk : IntKind.i64.wrap ((k : Int) - 1) = (k : Int) - 1 := IntWalk.i64_in _ (by omega)
          have hlp := last_prev (-1) xs k h0 (by omega)
          have HL := hid (hlp.trans HV.out)
          clear hlp hx0
          rcases (by omega : x ≤ v ∨ v < x) with q2 | q2
          · have HF := hid (asc_not (lo := -1) (hi := d - 1) hkl (by rw [HX.out, HL.out]; exact .inl q2))
            go_wp2_with fail
            go_quiet ((go_at_call 33; exact Calls.quiet_of_same (i1 _)))
            go_wp2_with fail
            go_ret
            exact ⟨ret_bool (by rw [← HB.out, barB_not HF.out]), gr_drewN (gr_trans (World.grownBy_alloc w _ none) hgr) _⟩
          · have HF := hid (asc_next (lo := -1) (hi := d - 1) hkl HA.out (by rw [HX.out, HL.out]; exact q2) (by rw [HX.out]; exact q'))
            go_wp2_with fail
            go_quiet ((go_at_call 33; exact Calls.quiet_of_same (i1 _)))
            go_wp2_with fail
            go_roundw
            case rel => exact ⟨k + 1, by go_num, by omega, HF.out, gr_drewN hgr _⟩
            case measure => simp [intOf]; omega
    · obtain rfl : k = n := by omega
      have HAll := hid (asc_all (xs := xs) (by rw [HN.out]; exact HA.out))
      have G := gr_trans (World.grownBy_alloc w _ none) hgr
      rcases (by omega : (d < 0 ∨ 100 < d) ∨ (0 ≤ d ∧ d ≤ 100)) with q | ⟨q, q'⟩
      · have i1 := fun w => in_is d 0 100 false w (inR_false q)
        have HE := hid (barB_next xs q)
        clear q
        go_wp2_with fail
        refine (i1 _).mono ?_
        rintro e w1 ⟨rfl, rfl⟩
        go_wp2_with fail
        go_ret
        exact ⟨ret_bool (by rw [← HB.out, HE.out]), G⟩
      · have i1 := fun w => in_is d 0 100 true w (inR_true q q')
        have HE := hid (barB_yes q q' HAll.out)
        go_wp2_with fail
        refine (i1 _).mono ?_
        rintro e w1 ⟨rfl, rfl⟩
        go_wp2_with fail
        go_ret
        exact ⟨ret_bool (by rw [← HB.out, HE.out]), G⟩
end Go.Proofs.Ytfcammfdengdbaa
