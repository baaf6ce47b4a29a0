/- The walk of FnTakeWhen. -/
import Derived.Test.YtcchnkpkdeminaaLkWith
import Derived.Test.YtcchnkpkdeminaaLkDraw
namespace Go.Proofs.Ytcchnkpkdeminaa
open Go.RowKit

set_option maxHeartbeats 2000000 in
theorem takewhen_walk (A : Option Addr) (n c : Nat) (zs : List Int) (w : World) (h : Code w A n c zs) :
    Calls Try.prog 8 #[.slice A n c] w fun e w' => e = .returned (.bool true) ∧ w.grownBy w' none := by
  have hc := h.cap
  have hm := h.max
  unfold maxLen at hm
  by_cases h1 : n > 1048576
  · go_enter Try.func8, Try.ntmps8
    go_wp2
    go_ret
    exact ⟨rfl, gr_refl _ _⟩
  go_enter Try.func8, Try.ntmps8
  go_wp2_with fail
  refine (dlt_any A n c zs _ h).mono ?_
  rintro e w1 ⟨B, N, C, l, o, D, m, d, xs, rfl, hO, hl, hsm, ho0, ho1, hO2, hxn, hm9, hx9, hg1⟩
  have hC := hO.cap
  have hCm := hO.max
  have hD := hO2.cap
  have hDm := hO2.max
  have hN := hsm.len
  rw [hl] at hN
  obtain ⟨b, hb⟩ : ∃ b, freeB l o xs = b := ⟨_, rfl⟩
  obtain ⟨y, hy⟩ : ∃ y, tkV l o xs = y := ⟨_, rfl⟩
  have L1 := hO.lies
  have D1 := hO2.lies
  have e1 := fun w hL hD1 => tk_any B N C l o D m d xs w hL hl hC hCm hD1 hxn hD hDm
  have e2 := fun w hL hD1 => stk_any B N C l o D m d xs w hL hl hC hCm hD1 hxn hD hDm
  rw [hb, hy] at e1 e2
  have e4 := fun w hL hD1 => lf_any B N C l o D m d xs w hL hl hC hCm hD1 hxn hD hDm
  rw [hb] at e4
  have HL := hid hl
  have HXn := hid hxn
  have HB := hid hb
  have HY := hid hy
  clear hl hxn hb hy hO hO2 hsm hx9
  unfold maxLen at hCm hDm
  go_wp2_with fail
  refine (e1 _ L1 D1).mono ?_
  rintro e w2 ⟨A1, q, c1, rfl, hO1, hl1, hq1, hg2⟩
  have L2 := L1.grown0 hg2
  have D2 := D1.grown0 hg2
  have G2 := gr_0 hg1 hg2
  clear hg2
  have hcA1 := hO1.cap
  have hmA1 := hO1.max
  go_wp2_with fail
  refine (e2 _ L2 D2).mono ?_
  rintro e w3 ⟨A2, q2, c2, rfl, hO2, hl2, hq2, hg3⟩
  have L3 := L2.grown0 hg3
  have D3 := D2.grown0 hg3
  have G3 := gr_0 G2 hg3
  have O3 := hO1.kept0 hg3
  clear hg3
  have hcA2 := hO2.cap
  have hmA2 := hO2.max
  obtain rfl : q = q2 := hl1.symm.trans hl2
  have LA := O3.lies
  have LB := hO2.lies
  have e3 := fun w hA hB => sl_same A1 A2 q q c1 c2 y w hA hB hl1 hl2 hcA1 hmA1 hcA2 hmA2
  have HLn := hid hl1
  clear hl1 hl2 e1 e2 hO2
  unfold maxLen at hmA1 hmA2
  go_wp2_with fail
  refine (e3 _ LA LB).mono ?_
  rintro e w4 ⟨rfl, hg4⟩
  have L4 := L3.grown0 hg4
  have D4 := D3.grown0 hg4
  have G4 := gr_0 G3 hg4
  have LA4 := LA.grown0 hg4
  have LB4 := LB.grown0 hg4
  clear hg4
  clear e3
  cases b with
  | false =>
    go_wp2_with fail
    refine (e4 _ L4 D4).mono ?_
    rintro e w5 ⟨rfl, hg5⟩
    have L5 := L4.grown0 hg5
    have D5 := D4.grown0 hg5
    have G5 := gr_0 G4 hg5
    have LA5 := LA4.grown0 hg5
    have LB5 := LB4.grown0 hg5
    clear hg5
    go_wp2_with fail
    go_ret
    exact ⟨rfl, G5⟩
  | true =>
    go_wp2_with fail
    refine (e4 _ L4 D4).mono ?_
    rintro e w5 ⟨rfl, hg5⟩
    have L5 := L4.grown0 hg5
    have D5 := D4.grown0 hg5
    have G5 := gr_0 G4 hg5
    have LA5 := LA4.grown0 hg5
    have LB5 := LB4.grown0 hg5
    clear hg5
    go_wp2_with fail
    go_ret
    exact ⟨rfl, G5⟩

end Go.Proofs.Ytcchnkpkdeminaa
