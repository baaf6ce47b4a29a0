/- The walk of FnGive. -/
import Derived.Test.YtcchnkpkdeminaaLkGive
namespace Go.Proofs.Ytcchnkpkdeminaa
open Go.RowKit

/-- The locks of others, so far. -/
theorem giveL_mono (l : List Lk) (o : Int) (k : Nat) : (giveL (l.take k) o) = (giveL l o).take (giveL (l.take k) o).length := by
  have h : giveL l o = giveL (l.take k) o ++ giveL (l.drop k) o := by
    conv => lhs; rw [← List.take_append_drop k l]
    exact List.filter_append ..
  rw [h, List.take_append_of_le_length (Nat.le_refl _), List.take_length]
theorem giveL_at {l : List Lk} {o : Int} {k : Nat} (h : k < l.length) (hq : l[k].o ≠ o) : ∃ hm : (giveL (l.take k) o).length < (giveL l o).length, (giveL l o)[(giveL (l.take k) o).length] = l[k] := by
  have h1 := giveL_next (o := o) h
  rw [if_neg hq] at h1
  have h2 := giveL_mono l o (k + 1)
  have h3 : (giveL (l.take (k + 1)) o).length = (giveL (l.take k) o).length + 1 := by rw [h1]; simp
  have h4 : (giveL (l.take k) o).length < (giveL l o).length := by
    have := congrArg List.length h2
    rw [List.length_take, h3] at this
    omega
  refine ⟨h4, ?_⟩
  rw [h3, h1] at h2
  have h5 := congrArg (fun q => q[(giveL (l.take k) o).length]?) h2
  simp only [List.getElem?_append_right (Nat.le_refl _), Nat.sub_self, List.getElem?_cons_zero] at h5
  rw [List.getElem?_take, if_pos (by omega), List.getElem?_eq_getElem h4] at h5
  injection h5 with h5
  exact h5.symm

set_option maxHeartbeats 2000000 in
theorem give_walk (A : Option Addr) (n c : Nat) (zs : List Int) (w : World) (h : Code w A n c zs) :
    Calls Try.prog 4 #[.slice A n c] w fun e w' => e = .returned (.bool true) ∧ w.grownBy w' none := by
  have hc := h.cap
  have hm := h.max
  unfold maxLen at hm
  by_cases h1 : n > 1048576
  · go_enter Try.func4, Try.ntmps4
    go_wp2
    go_ret
    exact ⟨rfl, gr_refl _ _⟩
  go_enter Try.func4, Try.ntmps4
  go_wp2_with fail
  refine (dlg_any A n c zs _ h).mono ?_
  rintro e w1 ⟨B, N, C, l, o, rfl, hO, hl, hsm, ho0, ho1, hg1⟩
  have hC := hO.cap
  have hCm := hO.max
  have hN := hsm.len
  rw [hl] at hN
  obtain ⟨y, hy⟩ : ∃ y, gvV l o = y := ⟨_, rfl⟩
  have e1 := fun w hL => gv_any B N C l o w hL hl hC hCm
  have e2 := fun w hL => sgv_any B N C l o w hL hl hC hCm
  rw [hy] at e1 e2
  obtain ⟨b, hb⟩ : ∃ b, lkA (-1) l = b := ⟨_, rfl⟩
  have e4 := fun w hL => slkv_is B N C l b w hL hl hC hCm hb
  have HL := hid hl
  have HY := hid hy
  have HB := hid hb
  have L1 := hO.lies
  clear hl hy hb hO hsm
  unfold maxLen at hCm
  go_wp2_with fail
  refine (e1 _ L1).mono ?_
  rintro e w2 ⟨A1, m, c1, rfl, hO1, hl1, hm1, hg2⟩
  have L2 := L1.grown0 hg2
  have G2 := gr_0 hg1 hg2
  clear hg2
  have hcA1 := hO1.cap
  have hmA1 := hO1.max
  go_wp2_with fail
  refine (e2 _ L2).mono ?_
  rintro e w3 ⟨A2, m2, c2, rfl, hO2, hl2, hm2, hg3⟩
  have L3 := L2.grown0 hg3
  have G3 := gr_0 G2 hg3
  have O3 := hO1.kept0 hg3
  clear hg3
  have hcA2 := hO2.cap
  have hmA2 := hO2.max
  obtain rfl : m = m2 := hl1.symm.trans hl2
  have LA := O3.lies
  have LB := hO2.lies
  have e3 := fun w hA hB => sl_same A1 A2 m m c1 c2 y w hA hB hl1 hl2 hcA1 hmA1 hcA2 hmA2
  have e5 := fun w hL hv => lkv_is A1 m c1 y true w hL hl1 hcA1 hmA1 hv
  have HLn := hid hl1
  clear hl1 hl2 e1 e2
  unfold maxLen at hmA1 hmA2
  go_wp2_with fail
  refine (e3 _ LA LB).mono ?_
  rintro e w4 ⟨rfl, hg4⟩
  have L4 := L3.grown0 hg4
  have G4 := gr_0 G3 hg4
  have LA4 := LA.grown0 hg4
  have LB4 := LB.grown0 hg4
  clear hg4
  go_wp2_with fail
  refine (e4 _ L4).mono ?_
  rintro e w5 ⟨rfl, hg5⟩
  have L5 := L4.grown0 hg5
  have G5 := gr_0 G4 hg5
  have LA5 := LA4.grown0 hg5
  have LB5 := LB4.grown0 hg5
  clear hg5
  cases b with
  | false =>
    go_wp2_with fail
    refine (e3 _ LA5 LB5).mono ?_
    rintro e w6 ⟨rfl, hg6⟩
    have L6 := L5.grown0 hg6
    have G6 := gr_0 G5 hg6
    have LA6 := LA5.grown0 hg6
    have LB6 := LB5.grown0 hg6
    clear hg6
    go_wp2_with fail
    go_ret
    exact ⟨rfl, G6⟩
  | true =>
    have hyv : y = giveL l o := by rw [← HY.out, gvV, HB.out]; rfl
    have HYV := hid hyv
    have e6 := fun w hL => e5 w hL (by rw [hyv]; exact give_valid HB.out o)
    clear hyv e5 e3 e4
    go_wp2_with fail
    go_loopw [7, 8] (fun v i wr => ∃ k : Nat, i = .int .i64 k ∧ v = .int .i64 ((giveL (l.take k) o).length : Nat) ∧ k ≤ N ∧ w5.grownBy wr none) (fun _ i _ => N - (intOf i).toNat)
    case atStart => exact ⟨0, rfl, rfl, by omega, gr_refl _ _⟩
    case round =>
      obtain ⟨k, rfl, rfl, hkN, hgr⟩ := hrel
      have Lr := L5.grown0 hgr
      have Ar := LA5.grown0 hgr
      have Gr := gr_0 G5 hgr
      by_cases hlt : k < N
      · have hkl : k < l.length := by rw [HL.out]; exact hlt
        obtain ⟨g, ofs, rfl, hg, hcell⟩ := Lr.open_ (by rw [flat_len Lk.cells 2 (fun _ => rfl), HL.out]; omega)
        obtain ⟨ca, cb⟩ := lkAt hcell hkl
        have hnx := giveL_next (o := o) hkl
        have hat := giveL_at (o := o) hkl
        rw [← HYV.out] at hat
        obtain ⟨q0, hq0⟩ : ∃ q0, (giveL (l.take k) o).length = q0 := ⟨_, rfl⟩
        rw [hq0]
        simp only [hq0] at hat
        have hnx2 := congrArg List.length hnx
        rw [List.length_append, hq0] at hnx2
        obtain ⟨z, hz⟩ : ∃ z, l[k] = z := ⟨_, rfl⟩
        rw [hz] at ca cb hnx2 hat
        have HZ := hid hz
        obtain ⟨s, ow⟩ := z
        simp only [] at ca cb hnx2 hat
        rcases (by omega : ow = o ∨ ow ≠ o) with q | q
        · have hq : (ow != o) = false := by simp [q]
          rw [if_pos q] at hnx2
          have HX := hid hnx2
          clear hz hcell hnx hnx2 hat hq0 q
          go_wp2_with fail
          go_roundw
          case rel => exact ⟨k + 1, by go_num, by rw [HX.out]; rfl, by omega, hgr⟩
          case measure => simp [intOf]; omega
        · have hq : (ow != o) = true := by simp [q]
          rw [if_neg q] at hnx2
          obtain ⟨hm, hat2⟩ := hat q
          clear hat
          rw [HLn.out] at hm
          have hml : q0 < y.length := by rw [HLn.out]; exact hm
          have HX := hid hnx2
          obtain ⟨g2, o2, rfl, hg2, hcell2⟩ := Ar.open_ (by rw [flat_len Lk.cells 2 (fun _ => rfl), HLn.out]; omega)
          obtain ⟨da, db⟩ := lkAt hcell2 hml
          rw [hat2] at da db
          simp only [] at da db
          have b1 : (0 : Int) ≤ (k : Int) := by omega
          have b2 : (k : Int) < (N : Int) := by omega
          have b3 : (0 : Int) ≤ (q0 : Int) := by omega
          have b4 : (q0 : Int) < (m : Int) := by omega
          have b5 : decide (m ≤ q0) = false := by simp; omega
          clear hat2
          clear hz hcell hcell2 hnx hnx2 hq0 q hml
          go_wp2_with fail
          go_quiet (fail)
          go_wp2_with fail
          go_roundw
          case rel => exact ⟨k + 1, by go_num, by rw [HX.out]; simp, by omega, gr_drewN hgr _⟩
          case measure => simp [intOf]; omega
      · obtain rfl : k = N := by omega
        have hle : (giveL (l.take k) o).length = m := by rw [List.take_of_length_le (by rw [HL.out]; omega), ← HYV.out, HLn.out]
        rw [hle]
        clear hle
        go_wp2_with fail
        refine (e6 _ Ar).mono ?_
        rintro e w9 ⟨rfl, hg9⟩
        go_wp2_with fail
        go_ret
        first | exact ⟨rfl, gr_0 Gr hg9⟩ | exact ⟨ret_bool (by simp), gr_0 Gr hg9⟩

end Go.Proofs.Ytcchnkpkdeminaa
