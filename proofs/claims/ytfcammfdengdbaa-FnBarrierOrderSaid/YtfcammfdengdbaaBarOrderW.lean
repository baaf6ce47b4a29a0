/- The walk of FnBarrierOrder. -/
import Derived.Test.YtfcammfdengdbaaBarBox
namespace Go.Proofs.Ytfcammfdengdbaa
open Go.RowKit

set_option maxHeartbeats 4000000 in
theorem order_walk (A : Option Addr) (n c : Nat) (zs : List Int) (w : World) (h : Code w A n c zs) :
    Calls Try.prog 10 #[.slice A n c] w fun e w' => e = .returned (.bool true) ∧ w.grownBy w' none := by
  have hc := h.cap
  have hm := h.max
  unfold maxLen at hm
  by_cases h1 : n > 1048576
  · go_enter Try.func10, Try.ntmps10
    go_wp2
    go_ret
    exact ⟨rfl, gr_refl _ _⟩
  go_enter Try.func10, Try.ntmps10
  go_wp2_with fail
  refine (dbt_any A n c zs _ h).mono ?_
  rintro e w1 ⟨d, P, N, C, xs, m, rfl, hO, hl, hsm, hm0, hm1, hg1⟩
  have hd0 := hsm.d0
  have hd1 := hsm.d1
  have hN : N ≤ 101 := by have := hsm.len; omega
  have hC := hO.cap
  have hCm := hO.max
  unfold maxLen at hCm
  have B1 := BBox.new (d := d) (IArg.of_own hO hl)
  have G1 := gr_alloc hg1 (.cells #[.int .i64 d, .slice P N C] 25)
  obtain ⟨D, hD⟩ : ∃ v, takeN d xs m = v := ⟨_, rfl⟩
  obtain ⟨L, hL⟩ : ∃ v, takeL d xs m = v := ⟨_, rfl⟩
  obtain ⟨f, hF⟩ : ∃ v, takeF d xs m = v := ⟨_, rfl⟩
  obtain ⟨b, hb⟩ : ∃ v, takeB d xs m = v := ⟨_, rfl⟩
  have HD := hid hD
  have HL := hid hL
  have HF := hid hF
  have HB := hid hb
  have e1 := bt_any d P N C xs m _ B1.arg (by omega) (by omega) (by omega) (by omega)
  rw [hD, hL, hF, hb] at e1
  have c0 := B1.c0
  have c1 := B1.c1
  clear hD hL hF hb hg1 hO hl
  go_wp2_with fail
  refine e1.mono ?_
  rintro e w2 ⟨A2, n2, c2, rfl, hO2, hl2, hg2⟩
  have B2 := (B1.grown0 hg2).grown0 (World.grownBy_alloc w2 (.cells #[.int .i64 D, .slice A2 n2 c2] 25) none)
  have X2 := BBox.new (d := D) (IArg.of_own hO2 hl2)
  have G2 := gr_alloc (gr_0 G1 hg2) (.cells #[.int .i64 D, .slice A2 n2 c2] 25)
  have e2 := sbt_any d P N C xs m _ B2.arg (by omega) (by omega) (by omega) (by omega)
  rw [HD.out, HL.out, HF.out, HB.out] at e2
  have hc2 := hO2.cap
  have hm2 := hO2.max
  unfold maxLen at hm2
  have HL2 := hid hl2
  clear e1 B1 G1 hg2 hO2 hl2 c0 c1
  have c0 := B2.c0
  have c1 := B2.c1
  go_wp2_with fail
  refine e2.mono ?_
  rintro e w3 ⟨A3, n3, c3, rfl, hO3, hl3, hg3⟩
  obtain rfl : n3 = n2 := hl3.symm.trans HL2.out
  have B3 := (B2.grown0 hg3).grown0 (World.grownBy_alloc w3 (.cells #[.int .i64 D, .slice A3 n3 c3] 25) none)
  have X3 := (X2.grown0 hg3).grown0 (World.grownBy_alloc w3 (.cells #[.int .i64 D, .slice A3 n3 c3] 25) none)
  have Y3 := BBox.new (d := D) (IArg.of_own hO3 hl3)
  have G3 := gr_alloc (gr_0 G2 hg3) (.cells #[.int .i64 D, .slice A3 n3 c3] 25)
  have e3 := fun w (hX : IArg w A2 n3 c2 L) (hY : IArg w A3 n3 c3 L) => sb_is D D A2 A3 n3 n3 c2 c3 L L true w hX hY (by simp)
  have e3a := e3 _ X3.arg Y3.arg
  have x0 := X3.c0
  have x1 := X3.c1
  have y0 := Y3.c0
  have y1 := Y3.c1
  have qb : (b != b) = false := by simp
  have qf : (f != f) = false := by simp
  clear e2 B2 X2 G2 hg3 hO3 hl3 c0 c1
  go_wp2_with fail
  refine e3a.mono ?_
  rintro e w4 ⟨rfl, hg4⟩
  have B4 := B3.grown0 hg4
  have X4 := X3.grown0 hg4
  have Y4 := Y3.grown0 hg4
  have G4 := gr_0 G3 hg4
  clear e3a B3 X3 Y3 G3 hg4 x0 x1 y0 y1
  have NO := hid (fun w5 (hg : w4.grownBy w5 none) => gr_0 G4 hg)
  cases b with
  | false =>
    have x0 := X4.c0
    have x1 := X4.c1
    have y0 := Y4.c0
    have y1 := Y4.c1
    have e5 := e3 _ X4.arg Y4.arg
    go_wp2_with fail
    refine e5.mono ?_
    rintro e w5 ⟨rfl, hg5⟩
    go_wp2_with fail
    go_ret
    exact ⟨ret_bool (by first | rfl | simp), NO.out _ hg5⟩
  | true =>
    obtain ⟨q1, q2, q3⟩ := take_yes HB.out
    rw [HD.out] at q1
    rw [HL.out] at q2
    rw [HF.out] at q3
    have HV := hid (show barB d xs = true ∧ (1 ≤ m ∧ m ≤ 24) ∧ d + m ≤ 100 by
      have := HB.out
      simp only [takeB, Bool.and_eq_true, inR, decide_eq_true_eq] at this
      exact ⟨this.1, this.2.1, this.2.2⟩)
    obtain ⟨hm2', hm3'⟩ := HV.out.2
    obtain ⟨hma, hmb⟩ := hm2'
    obtain ⟨k, rfl⟩ := Int.eq_ofNat_of_zero_le (show 0 ≤ m by omega)
    rw [Int.toNat_natCast] at q2
    clear HD HL HF hm0 hm1
    have q3' := q3.symm
    subst q1 q2 q3'
    have hk1 : 1 ≤ k := by omega
    have hk2 : k ≤ 24 := by omega
    have hv := HV.out.1
    have hn3 := HL2.out
    rw [List.length_append, news_len, B4.arg.len] at hn3
    have hdl := (barB_parts hv).1
    obtain ⟨hdl1, hdl2⟩ := hdl
    have HVal := hid hv
    clear hv HL2
    rcases (by omega : k < 2 ∨ 2 ≤ k) with hk | hk
    · have x0 := X4.c0
      have x1 := X4.c1
      have y0 := Y4.c0
      have y1 := Y4.c1
      have e5 := e3 _ X4.arg Y4.arg
      have dk : decide ((k : Int) < 2) = true := by simp; omega
      go_wp2_with fail
      refine e5.mono ?_
      rintro e w5 ⟨rfl, hg5⟩
      go_wp2_with fail
      go_ret
      exact ⟨ret_bool (by first | rfl | simp), NO.out _ hg5⟩
    have dk : decide ((k : Int) < 2) = false := by simp; omega
    clear Y4 e3 NO qb qf
    have hj : k - 1 + 1 = k := by omega
    have PP := order_parts (k := k - 1) HVal.out (by omega) (by omega) (by rw [hj]; exact hm3')
    rw [hj] at PP
    obtain ⟨j, hjk⟩ : ∃ j, k - 1 = j := ⟨_, rfl⟩
    rw [hjk] at PP
    obtain ⟨p1, p2, p3, p4, p5, p6, p7, p8⟩ := PP
    have P1 := hid p1
    have P2 := hid p2
    have P3 := hid p3
    have P4 := hid p4
    have P5 := hid p5
    have P6 := hid p6
    have P7 := hid p7
    have P8 := hid p8
    have i1 : IntKind.i64.wrap (d + 1) = d + 1 := IntWalk.i64_in _ (by omega)
    have i2 : IntKind.i64.wrap ((k : Int) - 1) = (j : Int) := by rw [IntWalk.i64_in _ (by omega)]; omega
    have i3 : (k : Int) - 1 = (j : Int) := by omega
    have hj24 : j ≤ 24 := by omega
    clear hj hjk
    clear p1 p2 p3 p4 p5 p6 p7 p8 dk B4
    have hdn := P1.out
    have hdy := done_yes hdn
    have e5 := bd_any (d + (k : Int)) A2 n3 c2 (xs ++ news d k) d 1 _ X4.arg (by omega) (by omega) (by omega) (by omega)
    rw [hdy.1, hdy.2, hdn] at e5
    rw [show outs d ((1 : Int)).toNat (xs ++ news d k) = xs ++ news (d + 1) j from P2.out] at e5
    have x0 := X4.c0
    have x1 := X4.c1
    clear hdn hdy
    go_wp2_with fail
    refine e5.mono ?_
    rintro e w6 ⟨A6, n6, c6, rfl, hO6, hl6, hg6⟩
    have X6 := (X4.grown0 hg6).grown0 (World.grownBy_alloc w6 (.cells #[.int .i64 (d + (k : Int)), .slice A6 n6 c6] 25) none)
    have S6 := BBox.new (d := (d + (k : Int))) (IArg.of_own hO6 hl6)
    have G6 := gr_alloc (gr_0 G4 hg6) (.cells #[.int .i64 (d + (k : Int)), .slice A6 n6 c6] 25)
    clear e5 x0 x1 hO6 hg6 X4 G4
    have hdn := P3.out
    have hdy := done_yes hdn
    have e5 := bd_any (d + (k : Int)) A6 n6 c6 (xs ++ news (d + 1) j) (d + 1) (j : Int) _ S6.arg (by omega) (by omega) (by omega) (by omega)
    rw [hdy.1, hdy.2, hdn] at e5
    rw [show outs (d + 1) (((j : Int) : Int)).toNat (xs ++ news (d + 1) j) = xs from (by rw [Int.toNat_natCast]; exact P4.out)] at e5
    have x0 := S6.c0
    have x1 := S6.c1
    clear hdn hdy
    go_wp2_with fail
    refine e5.mono ?_
    rintro e w7 ⟨A7, n7, c7, rfl, hO7, hl7, hg7⟩
    have X7 := (X6.grown0 hg7).grown0 (World.grownBy_alloc w7 (.cells #[.int .i64 (d + (k : Int)), .slice A7 n7 c7] 25) none)
    have S7 := (S6.grown0 hg7).grown0 (World.grownBy_alloc w7 (.cells #[.int .i64 (d + (k : Int)), .slice A7 n7 c7] 25) none)
    have Y7 := BBox.new (d := (d + (k : Int))) (IArg.of_own hO7 hl7)
    have G7 := gr_alloc (gr_0 G6 hg7) (.cells #[.int .i64 (d + (k : Int)), .slice A7 n7 c7] 25)
    clear e5 x0 x1 hO7 hg7 X6 S6 G6
    have hdn := P5.out
    have hdy := done_yes hdn
    have e5 := bd_any (d + (k : Int)) A2 n3 c2 (xs ++ news d k) (d + 1) (j : Int) _ X7.arg (by omega) (by omega) (by omega) (by omega)
    rw [hdy.1, hdy.2, hdn] at e5
    rw [show outs (d + 1) (((j : Int) : Int)).toNat (xs ++ news d k) = xs ++ [d] from (by rw [Int.toNat_natCast]; exact P6.out)] at e5
    have x0 := X7.c0
    have x1 := X7.c1
    clear hdn hdy
    go_wp2_with fail
    refine e5.mono ?_
    rintro e w8 ⟨A8, n8, c8, rfl, hO8, hl8, hg8⟩
    have X8 := (X7.grown0 hg8).grown0 (World.grownBy_alloc w8 (.cells #[.int .i64 (d + (k : Int)), .slice A8 n8 c8] 25) none)
    have Y8 := (Y7.grown0 hg8).grown0 (World.grownBy_alloc w8 (.cells #[.int .i64 (d + (k : Int)), .slice A8 n8 c8] 25) none)
    have T8 := BBox.new (d := (d + (k : Int))) (IArg.of_own hO8 hl8)
    have G8 := gr_alloc (gr_0 G7 hg8) (.cells #[.int .i64 (d + (k : Int)), .slice A8 n8 c8] 25)
    clear S7 e5 x0 x1 hO8 hg8 X7 Y7 G7
    have hdn := P7.out
    have hdy := done_yes hdn
    have e5 := bd_any (d + (k : Int)) A8 n8 c8 (xs ++ [d]) d 1 _ T8.arg (by omega) (by omega) (by omega) (by omega)
    rw [hdy.1, hdy.2, hdn] at e5
    rw [show outs d ((1 : Int)).toNat (xs ++ [d]) = xs from P8.out] at e5
    have x0 := T8.c0
    have x1 := T8.c1
    clear hdn hdy
    go_wp2_with fail
    refine e5.mono ?_
    rintro e w9 ⟨A9, n9, c9, rfl, hO9, hl9, hg9⟩
    have Y9 := (Y8.grown0 hg9).grown0 (World.grownBy_alloc w9 (.cells #[.int .i64 (d + (k : Int)), .slice A9 n9 c9] 25) none)
    have T9 := (T8.grown0 hg9).grown0 (World.grownBy_alloc w9 (.cells #[.int .i64 (d + (k : Int)), .slice A9 n9 c9] 25) none)
    have Z9 := BBox.new (d := (d + (k : Int))) (IArg.of_own hO9 hl9)
    have G9 := gr_alloc (gr_0 G8 hg9) (.cells #[.int .i64 (d + (k : Int)), .slice A9 n9 c9] 25)
    clear X8 e5 x0 x1 hO9 hg9 Y8 T8 G8
    have e6 := sb_is (d + (k : Int)) (d + (k : Int)) A7 A9 n7 n9 c7 c9 xs xs true _ Y9.arg Z9.arg (by simp)
    have y0 := Y9.c0
    have y1 := Y9.c1
    have z0 := Z9.c0
    have z1 := Z9.c1
    go_wp2_with fail
    refine e6.mono ?_
    rintro e wx ⟨rfl, hgx⟩
    go_wp2_with fail
    go_ret
    exact ⟨ret_bool (by first | rfl | simp), gr_0 G9 hgx⟩

end Go.Proofs.Ytfcammfdengdbaa
