/- Checkpoints: spec's CheckValid. -/
import Derived.Test.YtjhkmgoephmbpaaCk
namespace Go.Proofs.Ytjhkmgoephmbpaa
open Go.RowKit

set_option maxHeartbeats 2000000 in
theorem sckv_any (d : Int) (A : Option Addr) (c : Nat) (xs : List Int) (w : World) (h : Lies w A (ints xs)) (hc : xs.length ≤ c) (hm : c ≤ maxLen) (hd0 : -1000000 ≤ d) (hd1 : d ≤ 1000000) :
    Calls Try.prog 14 #[.agg #[.int .i64 d, .slice A xs.length c]] w fun e w' => e = .returned (.bool (ckB d xs)) ∧ w.grownBy w' none := by
  unfold maxLen at hm
  obtain ⟨n, hn⟩ : ∃ n, xs.length = n := ⟨_, rfl⟩
  rw [hn] at hc ⊢
  have HN := hid hn
  clear hn
  have hL := h.alloc (.cells #[.int .i64 d, .slice A n c] 25)
  have wd : IntKind.i64.wrap (d + 1) = d + 1 := IntWalk.i64_in _ (by omega)
  go_enter Try.func14, Try.ntmps14
  go_wp2_with fail
  go_loopw [3] (fun i wr => ∃ k : Nat, i = .int .i64 k ∧ k ≤ n ∧ asc d 99 (xs.take k) = true ∧ (w.alloc (.cells #[.int .i64 d, .slice A n c] 25)).grownBy wr none) (fun i _ => n - (intOf i).toNat)
  case atStart => exact ⟨0, rfl, by omega, rfl, gr_refl _ _⟩
  case round =>
    obtain ⟨k, rfl, hkn, hasc, hgr⟩ := hrel
    have HA := hid hasc
    clear hasc
    have F := (Full.new w 25 #[.int .i64 d, .slice A n c]).grown hgr (by simp)
    have c0 := F.cellAt 0 rfl
    have c1 := F.cellAt 1 rfl
    by_cases hlt : k < n
    · have hkl : k < xs.length := by rw [HN.out]; exact hlt
      obtain ⟨g, o, hA, _, hcell⟩ := (hL.grown0 hgr).open_ (by rw [ints_len]; omega)
      obtain rfl := hA
      have cx := intAt hcell hkl
      obtain ⟨x, hx⟩ : ∃ x, xs[k] = x := ⟨_, rfl⟩
      rw [hx] at cx
      have HX := hid hx
      have hx0 : xs[k] = x := hx
      clear hx
      have b1 : (0 : Int) ≤ (k : Int) := by omega
      have b2 : (k : Int) < (n : Int) := by omega
      have hlast := asc_last HA.out
      have HLst := hid hlast
      clear hlast
      rcases (by omega : (x < d + 1 ∨ 99 < x) ∨ (d + 1 ≤ x ∧ x ≤ 99)) with q | ⟨q, q'⟩
      · have i1 := fun w => in_q x (d + 1) 99 false w (inR_false q)
        have HF := hid (asc_not (lo := d) (hi := 99) hkl (by have := HLst.out; rw [HX.out]; omega))
        clear q
        go_wp2_with fail
        go_quiet ((go_at_call 29; exact Calls.quiet_of_same (i1 _)))
        go_wp2_with fail
        go_ret
        exact ⟨ret_bool (ckB_not d xs HF.out).symm, gr_drewN (gr_trans (World.grownBy_alloc w _ none) hgr) _⟩
      · have i1 := fun w => in_q x (d + 1) 99 true w (inR_true q q')
        rcases (by omega : k = 0 ∨ 1 ≤ k) with h0 | h0
        · have g0 : decide (0 < k) = false := by simp; omega
          have HF := hid (asc_next (lo := d) (hi := 99) hkl HA.out (by subst h0; have := hx0; simp only [List.take_zero, lastOf]; omega) (by rw [HX.out]; exact q'))
          clear h0 hx0
          go_wp2_with fail
          go_quiet ((go_at_call 29; exact Calls.quiet_of_same (i1 _)))
          go_wp2_with fail
          go_roundw
          case rel => exact ⟨k + 1, by go_num, by omega, HF.out, gr_drewN hgr _⟩
          case measure => simp [intOf]; omega
        · have cp := intAt hcell (show k - 1 < xs.length by omega)
          obtain ⟨v, hv⟩ : ∃ v, xs[k - 1] = v := ⟨_, rfl⟩
          rw [hv] at cp
          have HV := hid hv
          clear hv
          have g0 : decide (0 < k) = true := by simp; omega
          have b3 : (0 : Int) ≤ (k : Int) - 1 := by omega
          have b4 : (k : Int) - 1 < (n : Int) := by omega
          have b5 : ((k : Int) - 1).toNat = k - 1 := by omega
          have wk : IntKind.i64.wrap ((k : Int) - 1) = (k : Int) - 1 := IntWalk.i64_in _ (by omega)
          have hlp := last_prev d xs k h0 (by omega)
          have HL := hid (hlp.trans HV.out)
          clear hlp hx0
          rcases (by omega : x ≤ v ∨ v < x) with q2 | q2
          · have HF := hid (asc_not (lo := d) (hi := 99) hkl (by rw [HX.out, HL.out]; exact .inl q2))
            go_wp2_with fail
            go_quiet ((go_at_call 29; exact Calls.quiet_of_same (i1 _)))
            go_wp2_with fail
            go_ret
            exact ⟨ret_bool (ckB_not d xs HF.out).symm, gr_drewN (gr_trans (World.grownBy_alloc w _ none) hgr) _⟩
          · have HF := hid (asc_next (lo := d) (hi := 99) hkl HA.out (by rw [HX.out, HL.out]; exact q2) (by rw [HX.out]; exact q'))
            go_wp2_with fail
            go_quiet ((go_at_call 29; exact Calls.quiet_of_same (i1 _)))
            go_wp2_with fail
            go_roundw
            case rel => exact ⟨k + 1, by go_num, by omega, HF.out, gr_drewN hgr _⟩
            case measure => simp [intOf]; omega
    · obtain rfl : k = n := by omega
      have HB := hid (asc_all (xs := xs) (by rw [HN.out]; exact HA.out))
      have G := gr_trans (World.grownBy_alloc w _ none) hgr
      rcases (by omega : (d < 0 ∨ 100 < d) ∨ (0 ≤ d ∧ d ≤ 100)) with q | ⟨q, q'⟩
      · have i1 := fun w => in_is d 0 100 false w (inR_false q)
        have HE := hid (ckB_done d xs q)
        clear q
        go_wp2_with fail
        refine (i1 _).mono ?_
        rintro e w1 ⟨rfl, rfl⟩
        go_wp2_with fail
        go_ret
        exact ⟨ret_bool HE.out.symm, G⟩
      · have i1 := fun w => in_is d 0 100 true w (inR_true q q')
        go_wp2_with fail
        refine (i1 _).mono ?_
        rintro e w1 ⟨rfl, rfl⟩
        go_wp2_with fail
        go_ret
        refine ⟨ret_bool ?_, G⟩
        simp only [ckB, HB.out, HN.out, decide_eq_true (⟨q, q'⟩ : 0 ≤ d ∧ d ≤ 100), Bool.and_true, Bool.true_and]
        simp; omega
theorem sckv_is (d : Int) (A : Option Addr) (n c : Nat) (xs : List Int) (b : Bool) (w : World) (h : Lies w A (ints xs)) (hn : xs.length = n) (hc : n ≤ c) (hm : c ≤ maxLen) (hd0 : -1000000 ≤ d) (hd1 : d ≤ 1000000) (hb : ckB d xs = b) :
    Calls Try.prog 14 #[.agg #[.int .i64 d, .slice A n c]] w fun e w' => e = .returned (.bool b) ∧ w.grownBy w' none := by
  subst hn hb
  exact sckv_any d A c xs w h hc hm hd0 hd1
end Go.Proofs.Ytjhkmgoephmbpaa
