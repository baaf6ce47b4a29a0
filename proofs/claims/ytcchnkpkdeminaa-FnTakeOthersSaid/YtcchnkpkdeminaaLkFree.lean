/- LocksFree in impl and in spec. -/
import Derived.Test.YtcchnkpkdeminaaLkGive
import Derived.Test.YtcchnkpkdeminaaHasInt
namespace Go.Proofs.Ytcchnkpkdeminaa
open Go.RowKit

theorem freeB_v {l : List Lk} {o : Int} {xs : List Int} (h : lkA (-1) l = false) : freeB l o xs = false := by simp [freeB, h]
theorem freeB_o {l : List Lk} {o : Int} {xs : List Int} (h : inR o 1 99 = false) : freeB l o xs = false := by
  have : decide (1 ≤ o ∧ o ≤ 99) = false := h
  simp only [freeB, this, Bool.false_and, Bool.and_false]
theorem freeB_a {l : List Lk} {o : Int} {xs : List Int} (h : asc (-1) 7 xs = false) : freeB l o xs = false := by simp [freeB, h]
theorem freeB_s {l : List Lk} {o : Int} {xs : List Int} (h : freeS l o xs = false) : freeB l o xs = false := by simp [freeB, h]
theorem freeB_yes {l : List Lk} {o : Int} {xs : List Int} (h1 : lkA (-1) l = true) (h2 : inR o 1 99 = true) (h3 : asc (-1) 7 xs = true) (h4 : freeS l o xs = true) : freeB l o xs = true := by
  have : decide (1 ≤ o ∧ o ≤ 99) = true := h2
  simp only [freeB, this, h1, h3, h4, Bool.true_and]
theorem freeS_next {l : List Lk} {o : Int} {xs : List Int} {k : Nat} (hk : k < xs.length) (h : freeS l o (xs.take k) = true) (h1 : ownerOf l xs[k] = 0 ∨ ownerOf l xs[k] = o) : freeS l o (xs.take (k + 1)) = true := by
  rw [freeS, List.take_succ_eq_append_getElem hk, List.all_append, ← freeS, h]
  rcases h1 with h1 | h1 <;> simp [h1]
theorem freeS_not {l : List Lk} {o : Int} {xs : List Int} {k : Nat} (hk : k < xs.length) (h1 : ownerOf l xs[k] ≠ 0) (h2 : ownerOf l xs[k] ≠ o) : freeS l o xs = false := by
  rw [freeS, List.all_eq_false]
  exact ⟨xs[k], List.getElem_mem hk, by simp [h1, h2]⟩

set_option maxHeartbeats 2000000 in
theorem lf_any (A : Option Addr) (n c : Nat) (l : List Lk) (o : Int) (D : Option Addr) (m d : Nat) (xs : List Int) (w : World) (h : Lies w A (l.flatMap Lk.cells)) (hn : l.length = n) (hc_ : n ≤ c) (hm : c ≤ maxLen) (hD : Lies w D (ints xs)) (hxn : xs.length = m) (hdc : m ≤ d) (hdm : d ≤ maxLen) :
    Calls Try.prog 20 #[.slice A n c, .int .i64 o, .slice D m d] w fun e w' => e = .returned (.bool (freeB l o xs)) ∧ w.grownBy w' none := by
  obtain ⟨b1, hb1⟩ : ∃ b, lkA (-1) l = b := ⟨_, rfl⟩
  obtain ⟨b2, hb2⟩ : ∃ b, inR o 1 99 = b := ⟨_, rfl⟩
  have e1 := fun w hL => lkv_is A n c l b1 w hL hn hc_ hm hb1
  have e2 := fun w => ov_is o b2 w hb2
  have e3 := fun w hL hv => ho_any A n c l w hL hn hc_ hm hv
  have HB1 := hid hb1
  have HB2 := hid hb2
  have HX := hid hxn
  clear hb1 hb2 hn hxn
  unfold maxLen at hm hdm
  go_enter Try.func20, Try.ntmps20
  go_wp2_with fail
  refine (e1 _ h).mono ?_
  rintro e w1 ⟨rfl, hg1⟩
  cases b1 with
  | false =>
    go_wp2_with fail
    go_ret
    exact ⟨ret_bool (freeB_v HB1.out).symm, hg1⟩
  | true =>
    go_wp2_with fail
    refine (e2 _).mono ?_
    rintro e w2 ⟨rfl, rfl⟩
    cases b2 with
    | false =>
      go_wp2_with fail
      go_ret
      exact ⟨ret_bool (freeB_o HB2.out).symm, hg1⟩
    | true =>
      go_wp2_with fail
      refine (e3 _ (h.grown0 hg1) HB1.out).mono ?_
      rintro e w3 ⟨rfl, hg3⟩
      have G3 := gr_0 hg1 hg3
      have D3 := hD.grown0 G3
      unfold hc
      have V := Full.new w3 48 (hc (ownerOf l))
      have D4 := D3.alloc (.cells (hc (ownerOf l)) 48)
      have G4 := gr_alloc G3 (.cells (hc (ownerOf l)) 48)
      unfold hc at D4 G4
      clear hg1 hg3 G3 D3 e1 e2 e3
      go_wp2_with fail
      go_loop [8, 23] (fun v i => ∃ k : Nat, i = .int .i64 k ∧ v = .int .i64 (lastOf (-1) (xs.take k)) ∧ k ≤ m ∧ asc (-1) 7 (xs.take k) = true ∧ freeS l o (xs.take k) = true) (fun _ i => m - (intOf i).toNat)
      case atStart => exact ⟨0, rfl, rfl, by omega, rfl, rfl⟩
      case round =>
        obtain ⟨k, rfl, rfl, hkm, hasc, hfr⟩ := hrel
        have hlg := asc_last hasc
        have HA := hid hasc
        have HF := hid hfr
        clear hasc hfr
        by_cases hlt : k < m
        · have hkl : k < xs.length := by rw [HX.out]; exact hlt
          obtain ⟨g, ofs, rfl, hg, hcell⟩ := D4.open_ (by rw [ints_len]; omega)
          have cx := intAt hcell hkl
          have HAn := hid (fun q1 q2 => asc_next (lo := -1) (hi := 7) hkl HA.out q1 q2)
          have HAx := hid (asc_not (lo := -1) (hi := 7) hkl)
          have HFn := hid (freeS_next (l := l) (o := o) hkl HF.out)
          have HFx := hid (freeS_not (l := l) (o := o) hkl)
          have HT := hid (last_take (-1) xs k hkl)
          obtain ⟨x, hx⟩ : ∃ x, xs[k] = x := ⟨_, rfl⟩
          obtain ⟨v, hv⟩ : ∃ v, lastOf (-1) (xs.take k) = v := ⟨_, rfl⟩
          rw [hx] at cx HAn HAx HFn HFx HT
          rw [hv] at HAn HAx hlg ⊢
          clear hx hv hcell
          rcases (by omega : x ≤ v ∨ (v < x ∧ 8 ≤ x) ∨ (v < x ∧ x < 8)) with q | ⟨q, q'⟩ | ⟨q, q'⟩
          · have HR := hid (freeB_a (l := l) (o := o) (HAx.out (.inl q)))
            clear HAn HAx HFn HFx
            go_wp2_with fail
            go_ret
            exact ⟨ret_bool HR.out.symm, G4⟩
          · have HR := hid (freeB_a (l := l) (o := o) (HAx.out (.inr (by omega))))
            clear HAn HAx HFn HFx
            go_wp2_with fail
            go_ret
            exact ⟨ret_bool HR.out.symm, G4⟩
          · obtain ⟨xn, rfl⟩ : ∃ xn : Nat, x = (xn : Int) := ⟨x.toNat, by omega⟩
            have vc := V.cellAt xn (hc_at (ownerOf l) (show xn < 8 by omega))
            unfold hc at vc
            have x0 : (0 : Int) ≤ (xn : Int) := by omega
            obtain ⟨y, hy⟩ : ∃ y, ownerOf l (xn : Int) = y := ⟨_, rfl⟩
            rw [hy] at vc HFn HFx
            clear hy
            rcases (by omega : y = 0 ∨ (y ≠ 0 ∧ y = o) ∨ (y ≠ 0 ∧ y ≠ o)) with r | ⟨r, r'⟩ | ⟨r, r'⟩
            · have hy0 : (y != 0) = false := by simp [r]
              have HR1 := hid (HAn.out q (by omega))
              have HR2 := hid (HFn.out (.inl r))
              clear HAn HAx HFn HFx r
              go_wp2_with fail
              go_round
              case rel => exact ⟨k + 1, by go_num, by rw [HT.out], by omega, HR1.out, HR2.out⟩
              case measure => simp [intOf]; omega
            · have hy0 : (y != 0) = true := by simp [r]
              have hyo : (y != o) = false := by simp [r']
              have HR1 := hid (HAn.out q (by omega))
              have HR2 := hid (HFn.out (.inr r'))
              clear HAn HAx HFn HFx r r'
              go_wp2_with fail
              go_round
              case rel => exact ⟨k + 1, by go_num, by rw [HT.out], by omega, HR1.out, HR2.out⟩
              case measure => simp [intOf]; omega
            · have hy0 : (y != 0) = true := by simp [r]
              have hyo : (y != o) = true := by simp [r']
              have HR := hid (freeB_s (HFx.out r r'))
              clear HAn HAx HFn HFx r r'
              go_wp2_with fail
              go_ret
              exact ⟨ret_bool HR.out.symm, G4⟩
        · obtain rfl : k = m := by omega
          have HR := hid (freeB_yes (l := l) (o := o) (xs := xs) HB1.out HB2.out (asc_all (by rw [HX.out]; exact HA.out)) (by have := HF.out; rwa [List.take_of_length_le (by rw [HX.out]; omega)] at this))
          go_wp2_with fail
          go_ret
          exact ⟨ret_bool HR.out.symm, G4⟩

end Go.Proofs.Ytcchnkpkdeminaa
