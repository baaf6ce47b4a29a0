/- The walk of FnTakeNone. -/
import Derived.Test.YtcchnkpkdeminaaLkWith
import Derived.Test.YtcchnkpkdeminaaLkDraw
namespace Go.Proofs.Ytcchnkpkdeminaa
open Go.RowKit

theorem free_none {l : List Lk} {o : Int} {xs : List Int} (h : freeB l o xs = true) : freeB l o [] = true ∧ tkV l o [] = l := by
  obtain ⟨h1, h2, h3, h4⟩ := freeB_parts h
  have : freeB l o [] = true := freeB_yes h1 (inR_true h2.1 h2.2) rfl rfl
  exact ⟨this, by rw [tkV, this]; rfl⟩

set_option maxHeartbeats 2000000 in
theorem takenone_walk (A : Option Addr) (n c : Nat) (zs : List Int) (w : World) (h : Code w A n c zs) :
    Calls Try.prog 6 #[.slice A n c] w fun e w' => e = .returned (.bool true) ∧ w.grownBy w' none := by
  have hc := h.cap
  have hm := h.max
  unfold maxLen at hm
  by_cases h1 : n > 1048576
  · go_enter Try.func6, Try.ntmps6
    go_wp2
    go_ret
    exact ⟨rfl, gr_refl _ _⟩
  go_enter Try.func6, Try.ntmps6
  go_wp2_with fail
  refine (dlt_any A n c zs _ h).mono ?_
  rintro e w1 ⟨B, N, C, l, o, D, m, d, xs, rfl, hO, hl, hsm, ho0, ho1, hO2, hxn, hm9, hx9, hg1⟩
  have hC := hO.cap
  have hCm := hO.max
  have hD := hO2.cap
  have hDm := hO2.max
  have hN := hsm.len
  rw [hl] at hN
  obtain ⟨b, hb⟩ : ∃ b, freeB l o xs = b := ⟨_, rfl⟩
  obtain ⟨y, hy⟩ : ∃ y, tkV l o xs = y := ⟨_, rfl⟩
  have L1 := hO.lies
  have D1 := hO2.lies
  have e1 := fun w hL hD1 => tk_any B N C l o D m d xs w hL hl hC hCm hD1 hxn hD hDm
  have e2 := fun w hL hD1 => stk_any B N C l o D m d xs w hL hl hC hCm hD1 hxn hD hDm
  rw [hb, hy] at e1 e2
  have e4 := fun w hL a hD1 => tk_any B N C l o a 0 0 [] w hL hl hC hCm hD1 rfl (by omega) (by unfold maxLen; omega)
  have e5 := fun A3 c3 w hA hB h1 h2 h3 => sl_same A3 B N N c3 C l w hA hB h1 hl h2 h3 hC hCm
  have HL := hid hl
  have HXn := hid hxn
  have HB := hid hb
  have HY := hid hy
  clear hl hxn hb hy hO hO2 hsm hx9
  unfold maxLen at hCm hDm
  go_wp2_with fail
  refine (e1 _ L1 D1).mono ?_
  rintro e w2 ⟨A1, q, c1, rfl, hO1, hl1, hq1, hg2⟩
  have L2 := L1.grown0 hg2
  have D2 := D1.grown0 hg2
  have G2 := gr_0 hg1 hg2
  clear hg2
  have hcA1 := hO1.cap
  have hmA1 := hO1.max
  go_wp2_with fail
  refine (e2 _ L2 D2).mono ?_
  rintro e w3 ⟨A2, q2, c2, rfl, hO2, hl2, hq2, hg3⟩
  have L3 := L2.grown0 hg3
  have D3 := D2.grown0 hg3
  have G3 := gr_0 G2 hg3
  have O3 := hO1.kept0 hg3
  clear hg3
  have hcA2 := hO2.cap
  have hmA2 := hO2.max
  obtain rfl : q = q2 := hl1.symm.trans hl2
  have LA := O3.lies
  have LB := hO2.lies
  have e3 := fun w hA hB => sl_same A1 A2 q q c1 c2 y w hA hB hl1 hl2 hcA1 hmA1 hcA2 hmA2
  have HLn := hid hl1
  clear hl1 hl2 e1 e2 hO2
  unfold maxLen at hmA1 hmA2
  go_wp2_with fail
  refine (e3 _ LA LB).mono ?_
  rintro e w4 ⟨rfl, hg4⟩
  have L4 := L3.grown0 hg4
  have D4 := D3.grown0 hg4
  have G4 := gr_0 G3 hg4
  have LA4 := LA.grown0 hg4
  have LB4 := LB.grown0 hg4
  clear hg4
  cases b with
  | false =>
    go_wp2_with fail
    refine (e3 _ LA4 LB4).mono ?_
    rintro e w5 ⟨rfl, hg5⟩
    have L5 := L4.grown0 hg5
    have D5 := D4.grown0 hg5
    have G5 := gr_0 G4 hg5
    have LA5 := LA4.grown0 hg5
    have LB5 := LB4.grown0 hg5
    clear hg5
    go_wp2_with fail
    go_ret
    exact ⟨rfl, G5⟩
  | true =>
    obtain ⟨f1, f2⟩ := free_none HB.out
    rw [f1, f2] at e4
    clear f1 f2 e3
    go_wp2_with fail
    refine (e4 _ ((L4.alloc _)) _ Lies.nil).mono ?_
    rintro e w5 ⟨A3, q3, c3, rfl, hO3, hl3, hq3, hg5⟩
    have L5 := (L4.alloc _).grown0 hg5
    have D5 := (D4.alloc _).grown0 hg5
    have G5 := gr_0 (gr_alloc G4 _) hg5
    have LA5 := (LA4.alloc _).grown0 hg5
    have LB5 := (LB4.alloc _).grown0 hg5
    clear hg5
    have hcA3 := hO3.cap
    have hmA3 := hO3.max
    obtain rfl : N = q3 := HL.out.symm.trans hl3
    have hl3 := hid hl3
    go_wp2_with fail
    refine (e5 A3 c3 _ hO3.lies L5 hl3.out hcA3 hmA3).mono ?_
    rintro e w6 ⟨rfl, hg6⟩
    have L6 := L5.grown0 hg6
    have D6 := D5.grown0 hg6
    have G6 := gr_0 G5 hg6
    have LA6 := LA5.grown0 hg6
    have LB6 := LB5.grown0 hg6
    clear hg6
    go_wp2_with fail
    go_ret
    exact ⟨rfl, G6⟩

end Go.Proofs.Ytcchnkpkdeminaa
