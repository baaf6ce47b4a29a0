/- The walk of FnTakeNot. -/
import Derived.Test.YtcchnkpkdeminaaTakeGive
namespace Go.Proofs.Ytcchnkpkdeminaa
open Go.RowKit

theorem take_not {l : List Lk} {o o' : Int} {xs : List Int} (h : freeB l o xs = true) (hne : 0 < xs.length) (h' : o' ≠ o) : freeB (takeL l o xs) o' xs = false := by
  obtain ⟨f1, f2, f3⟩ := take_facts h
  have h2 := (freeB_parts h).2.1
  refine freeB_s ?_
  rw [freeS, List.all_eq_false]
  have hm : xs[0] ∈ xs := List.getElem_mem hne
  refine ⟨xs[0], hm, ?_⟩
  rw [f3, if_pos hm]
  simp only [Bool.or_eq_true, decide_eq_true_eq]
  omega
theorem take_again {l : List Lk} {o : Int} {xs : List Int} (h : freeB l o xs = true) : freeB (takeL l o xs) o xs = true ∧ tkV (takeL l o xs) o xs = takeL l o xs := by
  obtain ⟨f1, f2, f3⟩ := take_facts h
  obtain ⟨h1, h2, h3, h4⟩ := freeB_parts h
  have hb : freeB (takeL l o xs) o xs = true := by
    refine freeB_yes f2 (inR_true h2.1 h2.2) h3 ?_
    rw [freeS, List.all_eq_true]
    intro s hs
    rw [f3, if_pos hs]
    simp
  obtain ⟨g1, g2, g3⟩ := take_facts hb
  refine ⟨hb, ?_⟩
  rw [g1]
  refine lk_ext g2 f2 fun s => ?_
  rw [g3, f3]
  split <;> rfl

set_option maxHeartbeats 2000000 in
theorem takenot_walk (A : Option Addr) (n c : Nat) (zs : List Int) (w : World) (h : Code w A n c zs) :
    Calls Try.prog 7 #[.slice A n c] w fun e w' => e = .returned (.bool true) ∧ w.grownBy w' none := by
  have hc := h.cap
  have hm := h.max
  unfold maxLen at hm
  by_cases h1 : n > 1048576
  · go_enter Try.func7, Try.ntmps7
    go_wp2
    go_ret
    exact ⟨rfl, gr_refl _ _⟩
  go_enter Try.func7, Try.ntmps7
  go_wp2_with fail
  refine (dlt_any A n c zs _ h).mono ?_
  rintro e w1 ⟨B, N, C, l, o, D, m, d, xs, rfl, hO, hl, hsm, ho0, ho1, hO2, hxn, hm9, hx9, hg1⟩
  have hC := hO.cap
  have hCm := hO.max
  have hD := hO2.cap
  have hDm := hO2.max
  have hN := hsm.len
  rw [hl] at hN
  obtain ⟨b, hb⟩ : ∃ b, freeB l o xs = b := ⟨_, rfl⟩
  obtain ⟨y, hy⟩ : ∃ y, tkV l o xs = y := ⟨_, rfl⟩
  have L1 := hO.lies
  have D1 := hO2.lies
  have e1 := fun w hL hD1 => tk_any B N C l o D m d xs w hL hl hC hCm hD1 hxn hD hDm
  have e2 := fun w hL hD1 => stk_any B N C l o D m d xs w hL hl hC hCm hD1 hxn hD hDm
  rw [hb, hy] at e1 e2
  have HL := hid hl
  have HXn := hid hxn
  have HB := hid hb
  have HY := hid hy
  clear hl hxn hb hy hO hO2 hsm hx9
  unfold maxLen at hCm hDm
  go_wp2_with fail
  refine (e1 _ L1 D1).mono ?_
  rintro e w2 ⟨A1, q, c1, rfl, hO1, hl1, hq1, hg2⟩
  have L2 := L1.grown0 hg2
  have D2 := D1.grown0 hg2
  have G2 := gr_0 hg1 hg2
  clear hg2
  have hcA1 := hO1.cap
  have hmA1 := hO1.max
  go_wp2_with fail
  refine (e2 _ L2 D2).mono ?_
  rintro e w3 ⟨A2, q2, c2, rfl, hO2, hl2, hq2, hg3⟩
  have L3 := L2.grown0 hg3
  have D3 := D2.grown0 hg3
  have G3 := gr_0 G2 hg3
  have O3 := hO1.kept0 hg3
  clear hg3
  have hcA2 := hO2.cap
  have hmA2 := hO2.max
  obtain rfl : q = q2 := hl1.symm.trans hl2
  have LA := O3.lies
  have LB := hO2.lies
  have e3 := fun w hA hB => sl_same A1 A2 q q c1 c2 y w hA hB hl1 hl2 hcA1 hmA1 hcA2 hmA2
  have e4 := fun o' w hL hD1 => tk_any A1 q c1 y o' D m d xs w hL hl1 hcA1 hmA1 hD1 HXn.out hD hDm
  have e6 := fun A3 c3 w hA hB h1 h2 h3 => sl_same A3 A1 q q c3 c1 y w hA hB h1 hl1 h2 h3 hcA1 hmA1
  have HLn := hid hl1
  clear hl1 hl2 e1 e2 hO2
  unfold maxLen at hmA1 hmA2
  go_wp2_with fail
  refine (e3 _ LA LB).mono ?_
  rintro e w4 ⟨rfl, hg4⟩
  have L4 := L3.grown0 hg4
  have D4 := D3.grown0 hg4
  have G4 := gr_0 G3 hg4
  have LA4 := LA.grown0 hg4
  have LB4 := LB.grown0 hg4
  clear hg4
  cases b with
  | false =>
    go_wp2_with fail
    refine (e3 _ LA4 LB4).mono ?_
    rintro e w5 ⟨rfl, hg5⟩
    have L5 := L4.grown0 hg5
    have D5 := D4.grown0 hg5
    have G5 := gr_0 G4 hg5
    have LA5 := LA4.grown0 hg5
    have LB5 := LB4.grown0 hg5
    clear hg5
    go_wp2_with fail
    go_ret
    exact ⟨rfl, G5⟩
  | true =>
    have hps := freeB_parts HB.out
    obtain ⟨_, ho2, _, _⟩ := hps
    rcases Nat.eq_zero_or_pos m with q0 | q0
    · have hz : ((m : Int) == 0) = true := by simp; omega
      clear q0
      go_wp2_with fail
      refine (e3 _ LA4 LB4).mono ?_
      rintro e w5 ⟨rfl, hg5⟩
      have L5 := L4.grown0 hg5
      have D5 := D4.grown0 hg5
      have G5 := gr_0 G4 hg5
      have LA5 := LA4.grown0 hg5
      have LB5 := LB4.grown0 hg5
      clear hg5
      go_wp2_with fail
      go_ret
      exact ⟨rfl, G5⟩
    · have hz : ((m : Int) == 0) = false := by simp; omega
      have HNt := hid (fun (o' : Int) q => take_not (o' := o') HB.out (show 0 < xs.length by rw [HXn.out]; exact q0) q)
      have hag := take_again HB.out
      rw [← (take_facts HB.out).1, HY.out] at HNt hag
      obtain ⟨g1, g2⟩ := hag
      have e5 := e4 o
      rw [g1, g2] at e5
      clear g1 g2 e3 q0
      have hrem : Int.tmod o 99 = o := Int.tmod_eq_of_lt (by omega) (by omega)
      go_wp2_with fail
      refine (e4 (o + 1) _ LA4 D4).mono ?_
      rintro e w5 ⟨A3, q3, c3, he, hO3, hl3, hq3, hg5⟩
      rw [HNt.out _ (show o + 1 ≠ o by omega)] at he
      subst he
      have L5 := L4.grown0 hg5
      have D5 := D4.grown0 hg5
      have G5 := gr_0 G4 hg5
      have LA5 := LA4.grown0 hg5
      have LB5 := LB4.grown0 hg5
      clear hg5 hO3 hl3 hq3
      go_wp2_with fail
      refine (e5 _ LA5 D5).mono ?_
      rintro e w6 ⟨A4, q4, c4, rfl, hO4, hl4, hq4, hg6⟩
      have L6 := L5.grown0 hg6
      have D6 := D5.grown0 hg6
      have G6 := gr_0 G5 hg6
      have LA6 := LA5.grown0 hg6
      have LB6 := LB5.grown0 hg6
      clear hg6
      have hcA4 := hO4.cap
      have hmA4 := hO4.max
      obtain rfl : q = q4 := HLn.out.symm.trans hl4
      have hl4 := hid hl4
      go_wp2_with fail
      refine (e6 A4 c4 _ hO4.lies LA6 hl4.out hcA4 hmA4).mono ?_
      rintro e w7 ⟨rfl, hg7⟩
      have L7 := L6.grown0 hg7
      have D7 := D6.grown0 hg7
      have G7 := gr_0 G6 hg7
      have LA7 := LA6.grown0 hg7
      have LB7 := LB6.grown0 hg7
      clear hg7
      go_wp2_with fail
      go_ret
      exact ⟨rfl, G7⟩

end Go.Proofs.Ytcchnkpkdeminaa
