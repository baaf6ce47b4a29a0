/- LocksFree in spec. -/
import Derived.Test.YtcchnkpkdeminaaLkV
import Derived.Test.YtcchnkpkdeminaaLkFree
namespace Go.Proofs.Ytcchnkpkdeminaa
open Go.RowKit

set_option maxHeartbeats 2000000 in
theorem st11_is (A : Option Addr) (n c : Nat) (l : List Int) (b : Bool) (w : World) (h : Lies w A (ints l)) (hn : l.length = n) (hc : n ≤ c) (hm : c ≤ maxLen) (hb : asc (-1) 7 l = b) :
    Calls Try.prog 34 #[.slice A n c] w fun e w' => e = .returned (.bool b) ∧ w.grownBy w' none := by
  unfold maxLen at hm
  have HN := hid hn
  have HB := hid hb
  clear hn hb
  go_enter Try.func34, Try.ntmps34
  go_wp2_with fail
  go_loopw [3] (fun i wr => ∃ k : Nat, i = .int .i64 k ∧ k ≤ n ∧ asc (-1) 7 (l.take k) = true ∧ w.grownBy wr none) (fun i _ => n - (intOf i).toNat)
  case atStart => exact ⟨0, rfl, by omega, rfl, gr_refl _ _⟩
  case round =>
    obtain ⟨k, rfl, hkn, hok, hgr⟩ := hrel
    have hlg := asc_last hok
    have HO := hid hok
    clear hok
    by_cases hlt : k < n
    · have hkl : k < l.length := by rw [HN.out]; exact hlt
      obtain ⟨g, o, rfl, hg, hcell⟩ := h.open_ (by rw [ints_len]; omega)
      have ca := intAt hcell hkl
      replace ca := hgr.cell ca (by simp)
      have HNx := hid (fun q1 q2 => asc_next (lo := -1) (hi := 7) hkl HO.out q1 q2)
      have HNo := hid (asc_not (lo := -1) (hi := 7) hkl)
      have b1 : (0 : Int) ≤ (k : Int) := by omega
      have b2 : (k : Int) < (n : Int) := by omega
      have hprev : (k = 0 ∧ lastOf (-1) (l.take k) = -1) ∨ (∃ y : Int, 0 < k ∧ lastOf (-1) (l.take k) = y ∧ wr.cell? ⟨g, o + (k - 1), none⟩ = some (.int .i64 y)) := by
        rcases Nat.eq_zero_or_pos k with q | q
        · exact .inl ⟨q, by rw [q]; rfl⟩
        · have hk1 : k - 1 < l.length := by omega
          have := last_take (-1) l (k - 1) hk1
          rw [show k - 1 + 1 = k by omega] at this
          exact .inr ⟨_, q, this, hgr.cell (intAt hcell hk1) (by simp)⟩
      obtain ⟨s, hz⟩ : ∃ z, l[k] = z := ⟨_, rfl⟩
      rw [hz] at ca HNx HNo
      clear hz hcell
      rcases (by omega : (s < 0 ∨ 7 < s) ∨ (0 ≤ s ∧ s ≤ 7)) with r1 | ⟨r1, r1'⟩
      · have e1 := fun w => in_q s 0 7 false w (inR_false r1)
        have HF := hid (HNo.out (by omega))
        clear HNx HNo r1 hprev hlg
        go_wp2_with fail
        go_quiet ((first | (go_at_call_of 30 (Value.int IntKind.i64 7); exact Calls.quiet_of_same (e1 _))))
        go_wp2_with fail
        go_ret
        exact ⟨ret_bool (by rw [← HB.out, HF.out]), gr_drewN hgr _⟩
      have e1 := fun w => in_q s 0 7 true w (inR_true r1 r1')
      rcases hprev with ⟨hk0, hp⟩ | ⟨y, hk0, hp, cy⟩
      · have HF := hid (HNx.out (by omega) r1')
        have hk' : decide (0 < k) = false := by simp; omega
        clear HNx HNo hp hlg hk0
        go_wp2_with fail
        go_quiet ((first | (go_at_call_of 30 (Value.int IntKind.i64 7); exact Calls.quiet_of_same (e1 _))))
        go_wp2_with fail
        go_roundw
        case rel => exact ⟨k + 1, by go_num, by omega, HF.out, gr_drewN hgr _⟩
        case measure => simp [intOf]; omega
      · have hk' : decide (0 < k) = true := by simp; omega
        have b3 : (0 : Int) ≤ (k : Int) - 1 := by omega
        have b4 : (k : Int) - 1 < (n : Int) := by omega
        have b5 : ((k : Int) - 1).toNat = k - 1 := by omega
        rcases (by omega : s ≤ y ∨ y < s) with r3 | r3
        · have HF := hid (HNo.out (.inl (by omega)))
          have hcmp : decide (s ≤ y) = true := by simpa using r3
          clear HNx HNo hp hlg hk0
          go_wp2_with fail
          go_quiet ((first | (go_at_call_of 30 (Value.int IntKind.i64 7); exact Calls.quiet_of_same (e1 _))))
          go_wp2_with fail
          go_ret
          exact ⟨ret_bool (by rw [← HB.out, HF.out]), gr_drewN hgr _⟩
        · have HF := hid (HNx.out (by omega) r1')
          have hcmp : decide (s ≤ y) = false := by simp; omega
          clear HNx HNo hp hlg hk0
          go_wp2_with fail
          go_quiet ((first | (go_at_call_of 30 (Value.int IntKind.i64 7); exact Calls.quiet_of_same (e1 _))))
          go_wp2_with fail
          go_roundw
          case rel => exact ⟨k + 1, by go_num, by omega, HF.out, gr_drewN hgr _⟩
          case measure => simp [intOf]; omega
    · obtain rfl : k = n := by omega
      have HF := hid (asc_all (lo := -1) (hi := 7) (by rw [HN.out]; exact HO.out))
      go_wp2_with fail
      go_ret
      exact ⟨ret_bool (by rw [← HB.out, HF.out]), hgr⟩

/-- A lock and a stripe that may go together. -/
def okP (o : Int) (x : Lk) (s : Int) : Bool := !(decide (x.s = s) && !decide (x.o = o))
def allP (o : Int) (l : List Lk) (xs : List Int) : Bool := l.all fun x => xs.all (okP o x)
theorem allP_not {o : Int} {l : List Lk} {xs : List Int} {i k : Nat} (hi : i < l.length) (hk : k < xs.length) (h : l[i].s = xs[k] ∧ l[i].o ≠ o) : allP o l xs = false := by
  rw [allP, List.all_eq_false]
  refine ⟨l[i], List.getElem_mem hi, ?_⟩
  rw [Bool.not_eq_true, List.all_eq_false]
  exact ⟨xs[k], List.getElem_mem hk, by simp [okP, h.1, h.2]⟩
theorem row_next {o : Int} {x : Lk} {xs : List Int} {k : Nat} (hk : k < xs.length) (h : (xs.take k).all (okP o x) = true) (h1 : x.s ≠ xs[k] ∨ x.o = o) : (xs.take (k + 1)).all (okP o x) = true := by
  rw [List.take_succ_eq_append_getElem hk, List.all_append, h]
  rcases h1 with h1 | h1 <;> simp [okP, h1]
theorem allP_next {o : Int} {l : List Lk} {xs : List Int} {i : Nat} (hi : i < l.length) (h : allP o (l.take i) xs = true) (h1 : xs.all (okP o l[i]) = true) : allP o (l.take (i + 1)) xs = true := by
  rw [List.take_succ_eq_append_getElem hi, allP, List.all_append, ← allP, h]
  simp [h1]
theorem allP_free {o : Int} {l : List Lk} {xs : List Int} (h : lkA (-1) l = true) : allP o l xs = freeS l o xs := (freeS_spec h o xs).symm

set_option maxHeartbeats 2000000 in
theorem lf11_is (A : Option Addr) (n c : Nat) (l : List Lk) (o : Int) (D : Option Addr) (m d : Nat) (xs : List Int) (b : Bool) (w : World) (h : Lies w A (l.flatMap Lk.cells)) (hD : Lies w D (ints xs)) (hn : l.length = n) (hc : n ≤ c) (hm : c ≤ maxLen) (hxn : xs.length = m) (hdc : m ≤ d) (hdm : d ≤ maxLen) (hb : allP o l xs = b) :
    Calls Try.prog 35 #[.slice A n c, .int .i64 o, .slice D m d] w fun e w' => e = .returned (.bool b) ∧ w.grownBy w' none := by
  unfold maxLen at hm hdm
  have HN := hid hn
  have HX := hid hxn
  have HB := hid hb
  clear hn hxn hb
  go_enter Try.func35, Try.ntmps35
  go_wp2_with fail
  go_loopw [7] (fun i wr => ∃ k : Nat, i = .int .i64 k ∧ k ≤ n ∧ allP o (l.take k) xs = true ∧ w.grownBy wr none) (fun i _ => n - (intOf i).toNat)
  case atStart => exact ⟨0, rfl, by omega, rfl, gr_refl _ _⟩
  case round =>
    obtain ⟨i, rfl, hin, hok, hgr⟩ := hrel
    have HO := hid hok
    clear hok
    by_cases hlt : i < n
    · have hil : i < l.length := by rw [HN.out]; exact hlt
      obtain ⟨g, ofs, rfl, hg, hcell⟩ := h.open_ (by rw [flat_len Lk.cells 2 (fun _ => rfl)]; omega)
      obtain ⟨ca0, cb0⟩ := lkAt hcell hil
      have b1 : (0 : Int) ≤ (i : Int) := by omega
      have b2 : (i : Int) < (n : Int) := by omega
      clear hcell
      have HRow := hid (fun q => allP_next (o := o) (xs := xs) hil HO.out q)
      have HNot := hid (fun (k : Nat) (hk : k < xs.length) q => allP_not (o := o) (i := i) (k := k) hil hk q)
      have HStep := hid (fun (k : Nat) (hk : k < xs.length) (h : (xs.take k).all (okP o l[i]) = true) (q : l[i].s ≠ xs[k] ∨ l[i].o = o) => row_next hk h q)
      obtain ⟨z, hz⟩ : ∃ z, l[i] = z := ⟨_, rfl⟩
      simp only [hz] at ca0 cb0 HRow HNot HStep
      clear hz
      obtain ⟨s, ow⟩ := z
      simp only [] at ca0 cb0 HNot HStep
      go_wp2_with fail
      obtain ⟨wo, hwo⟩ : ∃ wo : World, wo = wr := ⟨_, rfl⟩
      rw [← hwo] at hgr ⊢
      clear hwo
      go_loopw [8] (fun j wi => ∃ k : Nat, j = .int .i64 k ∧ k ≤ m ∧ (xs.take k).all (okP o ⟨s, ow⟩) = true ∧ wo.grownBy wi none) (fun j _ => m - (intOf j).toNat)
      case atStart => exact ⟨0, rfl, by omega, rfl, gr_refl _ _⟩
      case round =>
        obtain ⟨k, rfl, hkm, hrow, hgi⟩ := hrel
        have HR := hid hrow
        clear hrow
        have G4 := gr_0 hgr hgi
        have ca := G4.cell ca0 (by simp)
        have cb := G4.cell cb0 (by simp)
        by_cases hlt2 : k < m
        · have hkl : k < xs.length := by rw [HX.out]; exact hlt2
          have D4 := hD.grown0 G4
          obtain ⟨g2, o2, rfl, hg2, hcell2⟩ := D4.open_ (by rw [ints_len]; omega)
          have cx := intAt hcell2 hkl
          clear hcell2
          have b3 : (0 : Int) ≤ (k : Int) := by omega
          have b4 : (k : Int) < (m : Int) := by omega
          have HNk := hid (HNot.out k hkl)
          have HSk := hid (fun q => HStep.out k hkl HR.out q)
          obtain ⟨x, hx⟩ : ∃ x, xs[k] = x := ⟨_, rfl⟩
          simp only [hx] at cx HNk HSk
          clear hx
          rcases (by omega : s ≠ x ∨ (s = x ∧ ow = o) ∨ (s = x ∧ ow ≠ o)) with q | ⟨q, q'⟩ | ⟨q, q'⟩
          · have hq : (s == x) = false := by simp [q]
            have HF := hid (HSk.out (.inl q))
            clear q HNk HSk
            go_wp2_with fail
            go_quiet (fail)
            go_wp2_with fail
            go_roundw
            case rel => exact ⟨k + 1, by go_num, by omega, HF.out, gr_drewN hgi _⟩
            case measure => simp [intOf]; omega
          · have hq : (s == x) = true := by simp [q]
            have hq2 : (ow != o) = false := by simp [q']
            have HF := hid (HSk.out (.inr q'))
            clear q q' HNk HSk
            go_wp2_with fail
            go_quiet (fail)
            go_wp2_with fail
            go_roundw
            case rel => exact ⟨k + 1, by go_num, by omega, HF.out, gr_drewN hgi _⟩
            case measure => simp [intOf]; omega
          · have hq : (s == x) = true := by simp [q]
            have hq2 : (ow != o) = true := by simp [q']
            have HF := hid (HNk.out ⟨q, q'⟩)
            clear q q' HNk HSk
            go_wp2_with fail
            go_quiet (fail)
            go_wp2_with fail
            go_ret
            exact ⟨ret_bool (by rw [← HB.out, HF.out]), gr_drewN G4 _⟩
        · obtain rfl : k = m := by omega
          have HF := hid (HRow.out (by have := HR.out; rwa [List.take_of_length_le (by rw [HX.out]; omega)] at this))
          go_wp2_with fail
          go_roundw
          case rel => exact ⟨i + 1, by go_num, by omega, HF.out, G4⟩
          case measure => simp [intOf]; omega
    · obtain rfl : i = n := by omega
      have HF := HO.out
      rw [List.take_of_length_le (by rw [HN.out]; omega)] at HF
      have HF := hid HF
      go_wp2_with fail
      go_ret
      exact ⟨ret_bool (by rw [← HB.out, HF.out]), hgr⟩

set_option maxHeartbeats 1000000 in
theorem slf_any (A : Option Addr) (n c : Nat) (l : List Lk) (o : Int) (D : Option Addr) (m d : Nat) (xs : List Int) (w : World) (h : Lies w A (l.flatMap Lk.cells)) (hn : l.length = n) (hc_ : n ≤ c) (hm : c ≤ maxLen) (hD : Lies w D (ints xs)) (hxn : xs.length = m) (hdc : m ≤ d) (hdm : d ≤ maxLen) :
    Calls Try.prog 21 #[.slice A n c, .int .i64 o, .slice D m d] w fun e w' => e = .returned (.bool (freeB l o xs)) ∧ w.grownBy w' none := by
  obtain ⟨b1, hb1⟩ : ∃ b, lkA (-1) l = b := ⟨_, rfl⟩
  obtain ⟨b2, hb2⟩ : ∃ b, inR o 1 99 = b := ⟨_, rfl⟩
  obtain ⟨b3, hb3⟩ : ∃ b, asc (-1) 7 xs = b := ⟨_, rfl⟩
  obtain ⟨b4, hb4⟩ : ∃ b, allP o l xs = b := ⟨_, rfl⟩
  have e1 := fun w hL => slkv_is A n c l b1 w hL hn hc_ hm hb1
  have e2 := fun w => in_is o 1 99 b2 w hb2
  have e3 := fun w hL => st11_is D m d xs b3 w hL hxn hdc hdm hb3
  have e4 := fun w hL hL2 => lf11_is A n c l o D m d xs b4 w hL hL2 hn hc_ hm hxn hdc hdm hb4
  have HB1 := hid hb1
  have HB2 := hid hb2
  have HB3 := hid hb3
  have HB4 := hid hb4
  clear hb1 hb2 hb3 hb4 hn hxn
  unfold maxLen at hm hdm
  go_enter Try.func21, Try.ntmps21
  go_wp2_with fail
  refine (e1 _ h).mono ?_
  rintro e w1 ⟨rfl, hg1⟩
  cases b1 with
  | false =>
    go_wp2_with fail
    go_ret
    exact ⟨ret_bool (freeB_v HB1.out).symm, hg1⟩
  | true =>
    go_wp2_with fail
    refine (e2 _).mono ?_
    rintro e w2 ⟨rfl, rfl⟩
    cases b2 with
    | false =>
      go_wp2_with fail
      go_ret
      exact ⟨ret_bool (freeB_o HB2.out).symm, hg1⟩
    | true =>
      go_wp2_with fail
      refine (e3 _ (hD.grown0 hg1)).mono ?_
      rintro e w3 ⟨rfl, hg3⟩
      have G3 := gr_0 hg1 hg3
      clear hg1 hg3
      cases b3 with
      | false =>
        go_wp2_with fail
        go_ret
        exact ⟨ret_bool (freeB_a HB3.out).symm, G3⟩
      | true =>
        go_wp2_with fail
        refine (e4 _ (h.grown0 G3) (hD.grown0 G3)).mono ?_
        rintro e w4 ⟨rfl, hg4⟩
        have G4 := gr_0 G3 hg4
        cases b4 with
        | false =>
          go_wp2_with fail
          go_ret
          exact ⟨ret_bool (freeB_s ((allP_free HB1.out).symm.trans HB4.out)).symm, G4⟩
        | true =>
          go_wp2_with fail
          go_ret
          exact ⟨ret_bool (freeB_yes HB1.out HB2.out HB3.out ((allP_free HB1.out).symm.trans HB4.out)).symm, G4⟩
end Go.Proofs.Ytcchnkpkdeminaa
