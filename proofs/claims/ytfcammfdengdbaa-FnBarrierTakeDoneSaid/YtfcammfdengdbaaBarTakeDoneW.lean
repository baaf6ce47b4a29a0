/- The walk of FnBarrierTakeDone. -/
import Derived.Test.YtfcammfdengdbaaBarBox
namespace Go.Proofs.Ytfcammfdengdbaa
open Go.RowKit

set_option maxHeartbeats 4000000 in
theorem takeDone_walk (A : Option Addr) (n c : Nat) (zs : List Int) (w : World) (h : Code w A n c zs) :
    Calls Try.prog 11 #[.slice A n c] w fun e w' => e = .returned (.bool true) ∧ w.grownBy w' none := by
  have hc := h.cap
  have hm := h.max
  unfold maxLen at hm
  by_cases h1 : n > 1048576
  · go_enter Try.func11, Try.ntmps11
    go_wp2
    go_ret
    exact ⟨rfl, gr_refl _ _⟩
  go_enter Try.func11, Try.ntmps11
  go_wp2_with fail
  refine (dbt_any A n c zs _ h).mono ?_
  rintro e w1 ⟨d, P, N, C, xs, m, rfl, hO, hl, hsm, hm0, hm1, hg1⟩
  have hd0 := hsm.d0
  have hd1 := hsm.d1
  have hN : N ≤ 101 := by have := hsm.len; omega
  have hC := hO.cap
  have hCm := hO.max
  unfold maxLen at hCm
  have B1 := BBox.new (d := d) (IArg.of_own hO hl)
  have G1 := gr_alloc hg1 (.cells #[.int .i64 d, .slice P N C] 25)
  obtain ⟨D, hD⟩ : ∃ v, takeN d xs m = v := ⟨_, rfl⟩
  obtain ⟨L, hL⟩ : ∃ v, takeL d xs m = v := ⟨_, rfl⟩
  obtain ⟨f, hF⟩ : ∃ v, takeF d xs m = v := ⟨_, rfl⟩
  obtain ⟨b, hb⟩ : ∃ v, takeB d xs m = v := ⟨_, rfl⟩
  have HD := hid hD
  have HL := hid hL
  have HF := hid hF
  have HB := hid hb
  have e1 := bt_any d P N C xs m _ B1.arg (by omega) (by omega) (by omega) (by omega)
  rw [hD, hL, hF, hb] at e1
  have c0 := B1.c0
  have c1 := B1.c1
  clear hD hL hF hb hg1 hO hl
  go_wp2_with fail
  refine e1.mono ?_
  rintro e w2 ⟨A2, n2, c2, rfl, hO2, hl2, hg2⟩
  have B2 := (B1.grown0 hg2).grown0 (World.grownBy_alloc w2 (.cells #[.int .i64 D, .slice A2 n2 c2] 25) none)
  have X2 := BBox.new (d := D) (IArg.of_own hO2 hl2)
  have G2 := gr_alloc (gr_0 G1 hg2) (.cells #[.int .i64 D, .slice A2 n2 c2] 25)
  have e2 := sbt_any d P N C xs m _ B2.arg (by omega) (by omega) (by omega) (by omega)
  rw [HD.out, HL.out, HF.out, HB.out] at e2
  have hc2 := hO2.cap
  have hm2 := hO2.max
  unfold maxLen at hm2
  have HL2 := hid hl2
  clear e1 B1 G1 hg2 hO2 hl2 c0 c1
  have c0 := B2.c0
  have c1 := B2.c1
  go_wp2_with fail
  refine e2.mono ?_
  rintro e w3 ⟨A3, n3, c3, rfl, hO3, hl3, hg3⟩
  obtain rfl : n3 = n2 := hl3.symm.trans HL2.out
  have B3 := (B2.grown0 hg3).grown0 (World.grownBy_alloc w3 (.cells #[.int .i64 D, .slice A3 n3 c3] 25) none)
  have X3 := (X2.grown0 hg3).grown0 (World.grownBy_alloc w3 (.cells #[.int .i64 D, .slice A3 n3 c3] 25) none)
  have Y3 := BBox.new (d := D) (IArg.of_own hO3 hl3)
  have G3 := gr_alloc (gr_0 G2 hg3) (.cells #[.int .i64 D, .slice A3 n3 c3] 25)
  have e3 := fun w (hX : IArg w A2 n3 c2 L) (hY : IArg w A3 n3 c3 L) => sb_is D D A2 A3 n3 n3 c2 c3 L L true w hX hY (by simp)
  have e3a := e3 _ X3.arg Y3.arg
  have x0 := X3.c0
  have x1 := X3.c1
  have y0 := Y3.c0
  have y1 := Y3.c1
  have qb : (b != b) = false := by simp
  have qf : (f != f) = false := by simp
  clear e2 B2 X2 G2 hg3 hO3 hl3 c0 c1
  go_wp2_with fail
  refine e3a.mono ?_
  rintro e w4 ⟨rfl, hg4⟩
  have B4 := B3.grown0 hg4
  have X4 := X3.grown0 hg4
  have Y4 := Y3.grown0 hg4
  have G4 := gr_0 G3 hg4
  clear e3a B3 X3 Y3 G3 hg4 x0 x1 y0 y1
  have NO := hid (fun w5 (hg : w4.grownBy w5 none) => gr_0 G4 hg)
  cases b with
  | false =>
    have x0 := X4.c0
    have x1 := X4.c1
    have y0 := Y4.c0
    have y1 := Y4.c1
    have e5 := e3 _ X4.arg Y4.arg
    go_wp2_with fail
    refine e5.mono ?_
    rintro e w5 ⟨rfl, hg5⟩
    go_wp2_with fail
    go_ret
    exact ⟨ret_bool (by first | rfl | simp), NO.out _ hg5⟩
  | true =>
    obtain ⟨q1, q2, q3⟩ := take_yes HB.out
    rw [HD.out] at q1
    rw [HL.out] at q2
    rw [HF.out] at q3
    have HV := hid (show barB d xs = true ∧ (1 ≤ m ∧ m ≤ 24) ∧ d + m ≤ 100 by
      have := HB.out
      simp only [takeB, Bool.and_eq_true, inR, decide_eq_true_eq] at this
      exact ⟨this.1, this.2.1, this.2.2⟩)
    obtain ⟨hm2', hm3'⟩ := HV.out.2
    obtain ⟨hma, hmb⟩ := hm2'
    obtain ⟨k, rfl⟩ := Int.eq_ofNat_of_zero_le (show 0 ≤ m by omega)
    rw [Int.toNat_natCast] at q2
    clear HD HL HF hm0 hm1
    have q3' := q3.symm
    subst q1 q2 q3'
    have hk1 : 1 ≤ k := by omega
    have hk2 : k ≤ 24 := by omega
    have hv := HV.out.1
    have hn3 := HL2.out
    rw [List.length_append, news_len, B4.arg.len] at hn3
    have hdl := (barB_parts hv).1
    obtain ⟨hdl1, hdl2⟩ := hdl
    have HVal := hid hv
    clear hv HL2
    clear Y4 e3 NO qb qf
    have hdn := take_done HVal.out hk1 hk2 hm3'
    have hdy := done_yes hdn
    rw [Int.toNat_natCast, take_outs HVal.out] at hdy
    have e5 := bd_any (d + (k : Int)) A2 n3 c2 (xs ++ news d k) d (k : Int) _ X4.arg (by omega) (by omega) (by omega) (by omega)
    rw [hdy.1, hdy.2, hdn] at e5
    have x0 := X4.c0
    have x1 := X4.c1
    clear hdn hdy
    go_wp2_with fail
    refine e5.mono ?_
    rintro e w6 ⟨A6, n6, c6, rfl, hO6, hl6, hg6⟩
    have hBl := (B4.arg).len
    obtain rfl : n6 = N := hl6.symm.trans hBl
    have B6 := (B4.grown0 hg6).grown0 (World.grownBy_alloc w6 (.cells #[.int .i64 (d + (k : Int)), .slice A6 n6 c6] 25) none)
    have X6 := (X4.grown0 hg6).grown0 (World.grownBy_alloc w6 (.cells #[.int .i64 (d + (k : Int)), .slice A6 n6 c6] 25) none)
    have Z6 := BBox.new (d := d + (k : Int)) (IArg.of_own hO6 hl6)
    have G6 := gr_alloc (gr_0 G4 hg6) (.cells #[.int .i64 (d + (k : Int)), .slice A6 n6 c6] 25)
    have e6 := si_is A6 P n6 n6 c6 C xs xs true _ Z6.arg.li B6.arg.li Z6.arg.len B6.arg.len Z6.arg.cap Z6.arg.max B6.arg.cap B6.arg.max (by simp)
    clear e5 x0 x1 hO6 hg6 hl6 hBl B4 X4 G4
    have c0 := B6.c0
    have c1 := B6.c1
    have x0 := X6.c0
    have x1 := X6.c1
    have z0 := Z6.c0
    have z1 := Z6.c1
    have q6 : (d + (k : Int) == d + (k : Int)) = true := by simp
    go_wp2_with fail
    refine e6.mono ?_
    rintro e w7 ⟨rfl, hg7⟩
    go_wp2_with fail
    go_ret
    exact ⟨ret_bool (by first | rfl | simp), gr_0 G6 hg7⟩

end Go.Proofs.Ytfcammfdengdbaa
