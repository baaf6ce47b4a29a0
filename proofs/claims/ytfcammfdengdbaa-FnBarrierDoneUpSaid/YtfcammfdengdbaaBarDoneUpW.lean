/- The walk of FnBarrierDoneUp. -/
import Derived.Test.YtfcammfdengdbaaBarBox
namespace Go.Proofs.Ytfcammfdengdbaa
open Go.RowKit

set_option maxHeartbeats 4000000 in
theorem doneUp_walk (A : Option Addr) (n c : Nat) (zs : List Int) (w : World) (h : Code w A n c zs) :
    Calls Try.prog 12 #[.slice A n c] w fun e w' => e = .returned (.bool true) ∧ w.grownBy w' none := by
  have hc := h.cap
  have hm := h.max
  unfold maxLen at hm
  by_cases h1 : n > 1048576
  · go_enter Try.func12, Try.ntmps12
    go_wp2
    go_ret
    exact ⟨rfl, gr_refl _ _⟩
  go_enter Try.func12, Try.ntmps12
  go_wp2_with fail
  refine (dbd_any A n c zs _ h).mono ?_
  rintro e w1 ⟨d, P, N, C, xs, f, m, rfl, hO, hl, hsm, hf0, hf1, hm0, hm1, hg1⟩
  have hd0 := hsm.d0
  have hd1 := hsm.d1
  have hN : N ≤ 101 := by have := hsm.len; omega
  have hC := hO.cap
  have hCm := hO.max
  unfold maxLen at hCm
  have B1 := BBox.new (d := d) (IArg.of_own hO hl)
  have G1 := gr_alloc hg1 (.cells #[.int .i64 d, .slice P N C] 25)
  obtain ⟨D, hD⟩ : ∃ v, doneN d xs f m = v := ⟨_, rfl⟩
  obtain ⟨L, hL⟩ : ∃ v, doneL d xs f m = v := ⟨_, rfl⟩
  obtain ⟨b, hb⟩ : ∃ v, doneB d xs f m = v := ⟨_, rfl⟩
  have HD := hid hD
  have HL := hid hL
  have HB := hid hb
  have e1 := bd_any d P N C xs f m _ B1.arg (by omega) (by omega) (by omega) (by omega)
  rw [hD, hL, hb] at e1
  have c0 := B1.c0
  have c1 := B1.c1
  clear hD hL hb hg1 hO hl
  go_wp2_with fail
  refine e1.mono ?_
  rintro e w2 ⟨A2, n2, c2, rfl, hO2, hl2, hg2⟩
  have B2 := (B1.grown0 hg2).grown0 (World.grownBy_alloc w2 (.cells #[.int .i64 D, .slice A2 n2 c2] 25) none)
  have X2 := BBox.new (d := D) (IArg.of_own hO2 hl2)
  have G2 := gr_alloc (gr_0 G1 hg2) (.cells #[.int .i64 D, .slice A2 n2 c2] 25)
  have e2 := sbd_any d P N C xs f m _ B2.arg (by omega) (by omega)
  rw [HD.out, HL.out, HB.out] at e2
  have hc2 := hO2.cap
  have hm2 := hO2.max
  unfold maxLen at hm2
  have HL2 := hid hl2
  clear e1 B1 G1 hg2 hO2 hl2 c0 c1
  have c0 := B2.c0
  have c1 := B2.c1
  go_wp2_with fail
  refine e2.mono ?_
  rintro e w3 ⟨A3, n3, c3, rfl, hO3, hl3, hg3⟩
  obtain rfl : n3 = n2 := hl3.symm.trans HL2.out
  have B3 := (B2.grown0 hg3).grown0 (World.grownBy_alloc w3 (.cells #[.int .i64 D, .slice A3 n3 c3] 25) none)
  have X3 := (X2.grown0 hg3).grown0 (World.grownBy_alloc w3 (.cells #[.int .i64 D, .slice A3 n3 c3] 25) none)
  have Y3 := BBox.new (d := D) (IArg.of_own hO3 hl3)
  have G3 := gr_alloc (gr_0 G2 hg3) (.cells #[.int .i64 D, .slice A3 n3 c3] 25)
  have e3 := fun w (hX : IArg w A2 n3 c2 L) (hY : IArg w A3 n3 c3 L) => sb_is D D A2 A3 n3 n3 c2 c3 L L true w hX hY (by simp)
  have e3a := e3 _ X3.arg Y3.arg
  have x0 := X3.c0
  have x1 := X3.c1
  have y0 := Y3.c0
  have y1 := Y3.c1
  have qb : (b != b) = false := by simp
  clear e2 B2 X2 G2 hg3 hO3 hl3 c0 c1
  go_wp2_with fail
  refine e3a.mono ?_
  rintro e w4 ⟨rfl, hg4⟩
  have B4 := B3.grown0 hg4
  have X4 := X3.grown0 hg4
  have Y4 := Y3.grown0 hg4
  have G4 := gr_0 G3 hg4
  clear e3a B3 X3 Y3 G3 hg4 x0 x1 y0 y1
  have NO := hid (fun w5 (hg : w4.grownBy w5 none) => gr_0 G4 hg)
  cases b with
  | false =>
    have x0 := X4.c0
    have x1 := X4.c1
    have y0 := Y4.c0
    have y1 := Y4.c1
    have e5 := e3 _ X4.arg Y4.arg
    go_wp2_with fail
    refine e5.mono ?_
    rintro e w5 ⟨rfl, hg5⟩
    go_wp2_with fail
    go_ret
    exact ⟨ret_bool (by first | rfl | simp), NO.out _ hg5⟩
  | true =>
    obtain ⟨q1, q2⟩ := done_yes HB.out
    rw [HD.out] at q1
    rw [HL.out] at q2
    obtain ⟨hv, hfr, hmr, hall⟩ := doneB_parts HB.out
    obtain ⟨hfa, hfb⟩ := hfr
    obtain ⟨hma, hmb⟩ := hmr
    obtain ⟨k, rfl⟩ := Int.eq_ofNat_of_zero_le (show 0 ≤ m by omega)
    rw [Int.toNat_natCast] at q2 hall
    clear HD HL hm0 hm1
    subst q1 q2
    have HVal := hid hv
    have HAll := hid hall
    have hlen := (done_len (f := f) (m := k) hv).2 hall
    have hBl := (B4.arg).len
    have hn3 := HL2.out
    rw [hBl, hn3] at hlen
    have HLen := hid hlen
    clear hv hall hBl hn3 Y4 e3 NO qb hlen
    have hag := done_again HB.out
    rw [Int.toNat_natCast] at hag
    obtain ⟨z1', z2'⟩ := done_no hag
    have e5 := bd_any D A2 n3 c2 (outs f k xs) f (k : Int) _ X4.arg (by omega) (by omega) (by omega) (by omega)
    rw [z1', z2', hag] at e5
    have x0 := X4.c0
    have x1 := X4.c1
    clear hag z1' z2'
    go_wp2_with fail
    refine e5.mono ?_
    rintro e w6 ⟨A6, n6, c6, rfl, hO6, hl6, hg6⟩
    have B6 := (B4.grown0 hg6).grown0 (World.grownBy_alloc w6 (.cells #[.int .i64 0, .slice A6 n6 c6] 25) none)
    have X6 := (X4.grown0 hg6).grown0 (World.grownBy_alloc w6 (.cells #[.int .i64 0, .slice A6 n6 c6] 25) none)
    have G6 := gr_alloc (gr_0 G4 hg6) (.cells #[.int .i64 0, .slice A6 n6 c6] 25)
    clear e5 x0 x1 hO6 hg6 hl6 B4 X4 G4
    obtain ⟨u, hu⟩ : ∃ v, barUp D xs = v := ⟨_, rfl⟩
    obtain ⟨v, hv⟩ : ∃ v, barUp D (outs f k xs) = v := ⟨_, rfl⟩
    have huv : u ≤ v := by
      rw [← hu, ← hv, barUp_yes HVal.out, barUp_yes (outs_valid HVal.out)]
      exact outs_head HVal.out
    have e5 := fun w h => up_is D P N C xs u w h hu
    have e6 := fun w h => up_is D A2 n3 c2 (outs f k xs) v w h hv
    have HBA := hid B6.arg
    have HXA := hid X6.arg
    have a0 := B6.c0
    have a1 := B6.c1
    have x0 := X6.c0
    have x1 := X6.c1
    have k0 := fun q os => cell_regrown a0 q os
    have k1 := fun q os => cell_regrown a1 q os
    have k2 := fun q os => cell_regrown x0 q os
    have k3 := fun q os => cell_regrown x1 q os
    have qu : decide (u ≤ v) = true := by simpa using huv
    clear hu hv a0 a1 x0 x1 B6 X6
    go_wp2_with fail
    refine wp_region_quiet_below (by kernel_rfl) (by kernel_rfl) ?_
    repeat (first | go_big_quiet_step ((first | (go_at_call_of 19 (Value.slice P N C); refine Calls.regrown_of (v := .int .i64 u) ((e5 _ (HBA.out.grown0 (gr_of_below (below_regrown _ _ _) none))).mono ?_); (rintro e w' ⟨he, hg⟩; exact ⟨he, gr_below hg⟩)) | (go_at_call_of 19 (Value.slice A2 n3 c2); refine Calls.regrown_of (v := .int .i64 v) ((e6 _ (HXA.out.grown0 (gr_of_below (below_regrown _ _ _) none))).mono ?_); (rintro e w' ⟨he, hg⟩; exact ⟨he, gr_below hg⟩)))) | quiet_step ((first | (go_at_call_of 19 (Value.slice P N C); refine Calls.regrown_of (v := .int .i64 u) ((e5 _ (HBA.out.grown0 (gr_of_below (below_regrown _ _ _) none))).mono ?_); (rintro e w' ⟨he, hg⟩; exact ⟨he, gr_below hg⟩)) | (go_at_call_of 19 (Value.slice A2 n3 c2); refine Calls.regrown_of (v := .int .i64 v) ((e6 _ (HXA.out.grown0 (gr_of_below (below_regrown _ _ _) none))).mono ?_); (rintro e w' ⟨he, hg⟩; exact ⟨he, gr_below hg⟩)))))
    refine wpQuiet_nil ?_
    intro _ hw'
    obtain ⟨⟨dq, osq⟩, hw''⟩ := hw'
    subst hw''
    clear k0 k1 k2 k3
    go_wp2_with fail
    go_ret
    exact ⟨ret_bool (by first | rfl | simp [qu] | simp), gr_0 G6 (gr_of_below (below_regrown _ _ _) none)⟩

end Go.Proofs.Ytfcammfdengdbaa
