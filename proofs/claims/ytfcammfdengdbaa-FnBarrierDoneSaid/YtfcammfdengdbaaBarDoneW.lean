/- The walk of FnBarrierDone. -/
import Derived.Test.YtfcammfdengdbaaBarBox
namespace Go.Proofs.Ytfcammfdengdbaa
open Go.RowKit

set_option maxHeartbeats 4000000 in
theorem done_walk (A : Option Addr) (n c : Nat) (zs : List Int) (w : World) (h : Code w A n c zs) :
    Calls Try.prog 8 #[.slice A n c] w fun e w' => e = .returned (.bool true) ∧ w.grownBy w' none := by
  have hc := h.cap
  have hm := h.max
  unfold maxLen at hm
  by_cases h1 : n > 1048576
  · go_enter Try.func8, Try.ntmps8
    go_wp2
    go_ret
    exact ⟨rfl, gr_refl _ _⟩
  go_enter Try.func8, Try.ntmps8
  go_wp2_with fail
  refine (dbd_any A n c zs _ h).mono ?_
  rintro e w1 ⟨d, P, N, C, xs, f, m, rfl, hO, hl, hsm, hf0, hf1, hm0, hm1, hg1⟩
  have hd0 := hsm.d0
  have hd1 := hsm.d1
  have hN : N ≤ 101 := by have := hsm.len; omega
  have hC := hO.cap
  have hCm := hO.max
  unfold maxLen at hCm
  have B1 := BBox.new (d := d) (IArg.of_own hO hl)
  have G1 := gr_alloc hg1 (.cells #[.int .i64 d, .slice P N C] 25)
  obtain ⟨D, hD⟩ : ∃ v, doneN d xs f m = v := ⟨_, rfl⟩
  obtain ⟨L, hL⟩ : ∃ v, doneL d xs f m = v := ⟨_, rfl⟩
  obtain ⟨b, hb⟩ : ∃ v, doneB d xs f m = v := ⟨_, rfl⟩
  have HD := hid hD
  have HL := hid hL
  have HB := hid hb
  have e1 := bd_any d P N C xs f m _ B1.arg (by omega) (by omega) (by omega) (by omega)
  rw [hD, hL, hb] at e1
  have c0 := B1.c0
  have c1 := B1.c1
  clear hD hL hb hg1 hO hl
  go_wp2_with fail
  refine e1.mono ?_
  rintro e w2 ⟨A2, n2, c2, rfl, hO2, hl2, hg2⟩
  have B2 := (B1.grown0 hg2).grown0 (World.grownBy_alloc w2 (.cells #[.int .i64 D, .slice A2 n2 c2] 25) none)
  have X2 := BBox.new (d := D) (IArg.of_own hO2 hl2)
  have G2 := gr_alloc (gr_0 G1 hg2) (.cells #[.int .i64 D, .slice A2 n2 c2] 25)
  have e2 := sbd_any d P N C xs f m _ B2.arg (by omega) (by omega)
  rw [HD.out, HL.out, HB.out] at e2
  have hc2 := hO2.cap
  have hm2 := hO2.max
  unfold maxLen at hm2
  have HL2 := hid hl2
  clear e1 B1 G1 hg2 hO2 hl2 c0 c1
  have c0 := B2.c0
  have c1 := B2.c1
  go_wp2_with fail
  refine e2.mono ?_
  rintro e w3 ⟨A3, n3, c3, rfl, hO3, hl3, hg3⟩
  obtain rfl : n3 = n2 := hl3.symm.trans HL2.out
  have B3 := (B2.grown0 hg3).grown0 (World.grownBy_alloc w3 (.cells #[.int .i64 D, .slice A3 n3 c3] 25) none)
  have X3 := (X2.grown0 hg3).grown0 (World.grownBy_alloc w3 (.cells #[.int .i64 D, .slice A3 n3 c3] 25) none)
  have Y3 := BBox.new (d := D) (IArg.of_own hO3 hl3)
  have G3 := gr_alloc (gr_0 G2 hg3) (.cells #[.int .i64 D, .slice A3 n3 c3] 25)
  have e3 := fun w (hX : IArg w A2 n3 c2 L) (hY : IArg w A3 n3 c3 L) => sb_is D D A2 A3 n3 n3 c2 c3 L L true w hX hY (by simp)
  have e3a := e3 _ X3.arg Y3.arg
  have x0 := X3.c0
  have x1 := X3.c1
  have y0 := Y3.c0
  have y1 := Y3.c1
  have qb : (b != b) = false := by simp
  clear e2 B2 X2 G2 hg3 hO3 hl3 c0 c1
  go_wp2_with fail
  refine e3a.mono ?_
  rintro e w4 ⟨rfl, hg4⟩
  have B4 := B3.grown0 hg4
  have X4 := X3.grown0 hg4
  have Y4 := Y3.grown0 hg4
  have G4 := gr_0 G3 hg4
  clear e3a B3 X3 Y3 G3 hg4 x0 x1 y0 y1
  have NO := hid (fun w5 (hg : w4.grownBy w5 none) => gr_0 G4 hg)
  cases b with
  | false =>
    have x0 := X4.c0
    have x1 := X4.c1
    have y0 := Y4.c0
    have y1 := Y4.c1
    have e5 := e3 _ X4.arg Y4.arg
    go_wp2_with fail
    refine e5.mono ?_
    rintro e w5 ⟨rfl, hg5⟩
    go_wp2_with fail
    go_ret
    exact ⟨ret_bool (by first | rfl | simp), NO.out _ hg5⟩
  | true =>
    obtain ⟨q1, q2⟩ := done_yes HB.out
    rw [HD.out] at q1
    rw [HL.out] at q2
    obtain ⟨hv, hfr, hmr, hall⟩ := doneB_parts HB.out
    obtain ⟨hfa, hfb⟩ := hfr
    obtain ⟨hma, hmb⟩ := hmr
    obtain ⟨k, rfl⟩ := Int.eq_ofNat_of_zero_le (show 0 ≤ m by omega)
    rw [Int.toNat_natCast] at q2 hall
    clear HD HL hm0 hm1
    subst q1 q2
    have HVal := hid hv
    have HAll := hid hall
    have hlen := (done_len (f := f) (m := k) hv).2 hall
    have hBl := (B4.arg).len
    have hn3 := HL2.out
    rw [hBl, hn3] at hlen
    have HLen := hid hlen
    clear hv hall hBl hn3 Y4 e3 NO qb hlen
    obtain ⟨wo, hwo⟩ : ∃ wo, wo = w4 := ⟨_, rfl⟩
    subst hwo
    have HB4 := hid B4
    have HX4 := hid X4
    have HOl := hid (show ∀ j, (outs f k (xs.take j)).length ≤ n3 from fun j => by
      have := HL2.out
      rw [← this]
      exact ((List.take_sublist j xs).filter _).length_le)
    clear B4 X4
    go_wp2_with fail
    go_loopw [10, 11] (fun q i wr => ∃ j p : Nat, q = .int .i64 (p : Int) ∧ i = .int .i64 (j : Int) ∧ j ≤ N ∧ (outs f k (xs.take j)).length = p ∧ wo.grownBy wr none) (fun _ i _ => N - (intOf i).toNat)
    case atStart => exact ⟨0, 0, rfl, rfl, by omega, rfl, gr_refl _ _⟩
    case round =>
      obtain ⟨j, p, rfl, rfl, hjN, hp, hgr⟩ := hrel
      have HPp := hid hp
      have hpn : p ≤ n3 := by rw [← hp]; exact HOl.out j
      have hpj : p ≤ j := by rw [← hp]; exact outs_len_take xs j
      have Bj := HB4.out.grown0 hgr
      have Xj := HX4.out.grown0 hgr
      have c0 := Bj.c0
      have c1 := Bj.c1
      have x0 := Xj.c0
      have x1 := Xj.c1
      have HBj := hid Bj
      have HXj := hid Xj
      clear hp
      by_cases hlt : j < N
      · have hjl : j < xs.length := by rw [HBj.out.arg.len]; exact hlt
        obtain ⟨g, o, hA, _, hcell⟩ := HBj.out.arg.li.open_ (by rw [ints_len]; omega)
        obtain rfl := hA
        have cx := intAt hcell hjl
        clear hcell
        have HYes := hid (outs_take_yes (f := f) (m := k) hjl)
        have HNo := hid (outs_take_no (f := f) (m := k) hjl)
        have HPre := hid (show outs f k (xs.take (j + 1)) <+: outs f k xs from (List.take_prefix (j + 1) xs).filter _)
        obtain ⟨x, hx⟩ : ∃ x, xs[j] = x := ⟨_, rfl⟩
        simp only [hx] at cx HYes HNo
        clear hx
        have b1 : (0 : Int) ≤ (j : Int) := by omega
        have b2 : (j : Int) < (N : Int) := by omega
        have i1 : IntKind.i64.wrap (f + (k : Int)) = f + k := IntWalk.i64_in _ (by omega)
        have hcase : (x < f ∨ (f ≤ x ∧ f + (k : Int) ≤ x)) ∨ (f ≤ x ∧ x < f + (k : Int)) := by omega
        rcases hcase with q1 | ⟨q1, q2⟩
        · have HY := hid (HYes.out (by omega))
          have hpl : p < n3 := by
            have h1 := HOl.out (j + 1)
            rw [HY.out, List.length_append, HPp.out] at h1
            simp at h1
            omega
          have hpo : p < (outs f k xs).length := by rw [HL2.out]; exact hpl
          have hpx : (outs f k xs)[p] = x := by
            have h1 := HPre.out
            rw [HY.out] at h1
            obtain ⟨r, hr⟩ := h1
            have h2 : (outs f k xs)[p]? = some x := by
              rw [← hr, List.append_assoc, List.getElem?_append_right (by rw [HPp.out]; exact Nat.le_refl _), HPp.out, Nat.sub_self]
              rfl
            rw [List.getElem?_eq_getElem hpo] at h2
            injection h2
          obtain ⟨g', o', hA', _, hcell'⟩ := HXj.out.arg.li.open_ (by rw [ints_len]; omega)
          obtain rfl := hA'
          have cy := intAt hcell' hpo
          rw [hpx] at cy
          have b3 : (0 : Int) ≤ (p : Int) := by omega
          have b4 : (p : Int) < (n3 : Int) := by omega
          have d4 : decide ((n3 : Int) ≤ (p : Int)) = false := by simp; omega
          have d5 : decide (n3 ≤ p) = false := by simp; omega
          have qx : (x != x) = false := by simp
          clear hcell' hpx HYes HNo HPre
          rcases q1 with q1 | ⟨q1, q2⟩
          · have d1 : decide (x < f) = true := by simpa using q1
            go_wp2_with fail
            go_quiet (fail)
            go_wp2_with fail
            go_roundw
            case rel => exact ⟨j + 1, p + 1, by go_num, by go_num, by omega, by rw [HY.out, List.length_append, HPp.out]; rfl, gr_drewN hgr _⟩
            case measure => simp [intOf]; omega
          · have d1 : decide (x < f) = false := by simp; omega
            have d2 : decide (f + (k : Int) ≤ x) = true := by simpa using q2
            go_wp2_with fail
            go_quiet (fail)
            go_wp2_with fail
            go_roundw
            case rel => exact ⟨j + 1, p + 1, by go_num, by go_num, by omega, by rw [HY.out, List.length_append, HPp.out]; rfl, gr_drewN hgr _⟩
            case measure => simp [intOf]; omega
        · have HY := hid (HNo.out ⟨q1, q2⟩)
          have d1 : decide (x < f) = false := by simp; omega
          have d2 : decide (f + (k : Int) ≤ x) = false := by simp; omega
          clear HYes HNo HPre
          go_wp2_with fail
          go_roundw
          case rel => exact ⟨j + 1, p, rfl, by go_num, by omega, by rw [HY.out]; exact HPp.out, hgr⟩
          case measure => simp [intOf]; omega
      · obtain rfl : j = N := by omega
        have hpe : p = n3 := by
          have h1 := HPp.out
          rw [List.take_of_length_le (by rw [HBj.out.arg.len]; exact Nat.le_refl _)] at h1
          exact h1.symm.trans HL2.out
        subst hpe
        have e5 := bv_is D A2 p c2 (outs f k xs) true _ HXj.out.arg (outs_valid HVal.out)
        clear HPp
        go_wp2_with fail
        refine e5.mono ?_
        rintro e w6 ⟨rfl, hg6⟩
        have B6 := HBj.out.grown0 hg6
        have X6 := HXj.out.grown0 hg6
        have G6 := gr_0 (gr_0 G4 hgr) hg6
        clear c0 c1 x0 x1 e5 Bj Xj HBj HXj
        have c0 := B6.c0
        have c1 := B6.c1
        have x0 := X6.c0
        have x1 := X6.c1
        have i1 : IntKind.i64.wrap ((p : Int) + (k : Int)) = (p : Int) + k := IntWalk.i64_in _ (by omega)
        have q4 : ((p : Int) + (k : Int) == (j : Int)) = true := by have := HLen.out; simp; omega
        have q5 : (D == D) = true := by simp
        go_wp2_with fail
        go_ret
        exact ⟨ret_bool (by first | rfl | simp [q4, q5] | (simp; omega)), G6⟩

end Go.Proofs.Ytfcammfdengdbaa
