/- The walk of FnFree. -/
import Derived.Test.YtcchnkpkdeminaaLkFree
import Derived.Test.YtcchnkpkdeminaaSlkFree
import Derived.Test.YtcchnkpkdeminaaLkDraw
import Derived.Test.YtcchnkpkdeminaaHasInt
namespace Go.Proofs.Ytcchnkpkdeminaa
open Go.RowKit

theorem lies_one (w : World) (t : TypeId) (x : Int) : Lies (w.alloc (.cells #[.int .i64 x] t)) (some ⟨w.heap.size, 0, none⟩) (ints [x]) :=
  .inr ⟨_, 0, rfl, fun j u hu => by
    cases j with
    | zero => simp [ints] at hu; subst hu; exact (Full.new w t _).cellAt 0 rfl
    | succ j => simp [ints] at hu⟩
theorem freeB_one {l : List Lk} {o : Int} {xs : List Int} {k : Nat} (h : freeB l o xs = true) (hk : k < xs.length) : freeB l o [xs[k]] = true := by
  obtain ⟨h1, h2, h3, h4⟩ := freeB_parts h
  have hx := asc_mem h3 xs[k] (List.getElem_mem hk)
  rw [freeS, List.all_eq_true] at h4
  have h5 := h4 xs[k] (List.getElem_mem hk)
  refine freeB_yes h1 (inR_true h2.1 h2.2) ?_ ?_
  · simp only [asc, Bool.and_true, Bool.and_eq_true, decide_eq_true_eq]; exact hx
  · simp only [freeS, List.all_cons, List.all_nil, Bool.and_true]; exact h5
theorem free_held {l : List Lk} {o : Int} {xs : List Int} {k : Nat} (h : freeB l o xs = true) (hk : k < l.length) (hm : l[k].s ∈ xs) : l[k].o = o := by
  obtain ⟨h1, h2, h3, h4⟩ := freeB_parts h
  rw [freeS, List.all_eq_true] at h4
  have h5 := h4 _ hm
  rw [own_mem h1 (List.getElem_mem hk)] at h5
  have := (lkA_mem h1 _ (List.getElem_mem hk)).2.2.1
  simp only [Bool.or_eq_true, decide_eq_true_eq] at h5
  omega

set_option maxHeartbeats 2000000 in
theorem free_walk (A : Option Addr) (n c : Nat) (zs : List Int) (w : World) (h : Code w A n c zs) :
    Calls Try.prog 5 #[.slice A n c] w fun e w' => e = .returned (.bool true) ∧ w.grownBy w' none := by
  have hc := h.cap
  have hm := h.max
  unfold maxLen at hm
  by_cases h1 : n > 1048576
  · go_enter Try.func5, Try.ntmps5
    go_wp2
    go_ret
    exact ⟨rfl, gr_refl _ _⟩
  go_enter Try.func5, Try.ntmps5
  go_wp2_with fail
  refine (dlf_any A n c zs _ h).mono ?_
  rintro e w1 ⟨B, N, C, l, o, D, m, d, xs, rfl, hO, hl, hsm, ho0, ho1, hO2, hxn, hm9, hx9, hg1⟩
  have hC := hO.cap
  have hCm := hO.max
  have hD := hO2.cap
  have hDm := hO2.max
  have hN := hsm.len
  rw [hl] at hN
  obtain ⟨b, hb⟩ : ∃ b, freeB l o xs = b := ⟨_, rfl⟩
  have L1 := hO.lies
  have D1 := hO2.lies
  have e1 := fun w hL hD1 => lf_any B N C l o D m d xs w hL hl hC hCm hD1 hxn hD hDm
  have e2 := fun w hL hD1 => slf_any B N C l o D m d xs w hL hl hC hCm hD1 hxn hD hDm
  rw [hb] at e1 e2
  have e3 := fun s b w hL hb => hi_is D m d xs s b w hL hxn hD hDm hb
  have e4 := fun w hL a x hD1 => lf_any B N C l o a 1 1 [x] w hL hl hC hCm hD1 rfl (by omega) (by unfold maxLen; omega)
  have HL := hid hl
  have HXn := hid hxn
  have HB := hid hb
  clear hl hxn hb hO hO2 hsm hx9
  unfold maxLen at hCm hDm
  go_wp2_with fail
  refine (e1 _ L1 D1).mono ?_
  rintro e w2 ⟨rfl, hg2⟩
  have L2 := L1.grown0 hg2
  have D2 := D1.grown0 hg2
  have G2 := gr_0 hg1 hg2
  clear hg2
  go_wp2_with fail
  refine (e2 _ L2 D2).mono ?_
  rintro e w3 ⟨rfl, hg3⟩
  have L3 := L2.grown0 hg3
  have D3 := D2.grown0 hg3
  have G3 := gr_0 G2 hg3
  clear hg3
  clear e1 e2
  cases b with
  | false =>
    go_wp2_with fail
    go_ret
    exact ⟨rfl, G3⟩
  | true =>
    go_wp2_with fail
    go_loopw [8] (fun i wr => ∃ k : Nat, i = .int .i64 k ∧ k ≤ N ∧ w3.grownBy wr none) (fun i _ => N - (intOf i).toNat)
    case atStart => exact ⟨0, rfl, by omega, gr_refl _ _⟩
    case round =>
      obtain ⟨k, rfl, hkN, hgr⟩ := hrel
      have Lr := L3.grown0 hgr
      have Dr := D3.grown0 hgr
      by_cases hlt : k < N
      · have hkl : k < l.length := by rw [HL.out]; exact hlt
        obtain ⟨g, ofs, rfl, hg, hcell⟩ := Lr.open_ (by rw [flat_len Lk.cells 2 (fun _ => rfl), HL.out]; omega)
        obtain ⟨ca, cb⟩ := lkAt hcell hkl
        have HH := hid (free_held HB.out hkl)
        obtain ⟨z, hz⟩ : ∃ z, l[k] = z := ⟨_, rfl⟩
        rw [hz] at ca cb HH
        obtain ⟨s, ow⟩ := z
        simp only [] at ca cb HH
        have b1 : (0 : Int) ≤ (k : Int) := by omega
        have b2 : (k : Int) < (N : Int) := by omega
        clear hz hcell
        obtain ⟨b, hb⟩ : ∃ b, decide (s ∈ xs) = b := ⟨_, rfl⟩
        have e5 := fun w hL => e3 s b w hL hb
        have Hb := hid hb
        clear hb e4 e3
        go_wp2_with fail
        refine (e5 _ Dr).mono ?_
        rintro e w_ ⟨rfl, rfl⟩
        cases b with
        | false =>
          go_wp2_with fail
          go_roundw
          case rel => exact ⟨k + 1, by go_num, by omega, hgr⟩
          case measure => simp [intOf]; omega
        | true =>
          have hq : (ow != o) = false := by simp [HH.out (of_decide_eq_true Hb.out)]
          go_wp2_with fail
          go_roundw
          case rel => exact ⟨k + 1, by go_num, by omega, hgr⟩
          case measure => simp [intOf]; omega
      · obtain rfl : k = N := by omega
        go_wp2_with fail
        obtain ⟨wo, hwo⟩ : ∃ wo : World, wo = wr := ⟨_, rfl⟩
        have Go := gr_0 G3 hgr
        rw [← hwo] at Lr Dr Go ⊢
        clear hwo hgr
        go_loopw [9] (fun i wr => ∃ k : Nat, i = .int .i64 k ∧ k ≤ m ∧ wo.grownBy wr none) (fun i _ => m - (intOf i).toNat)
        case atStart => exact ⟨0, rfl, by omega, gr_refl _ _⟩
        case round =>
          obtain ⟨j, rfl, hjm, hgi⟩ := hrel
          have Li := Lr.grown0 hgi
          have Di := Dr.grown0 hgi
          by_cases hlt2 : j < m
          · have hjl : j < xs.length := by rw [HXn.out]; exact hlt2
            obtain ⟨g, ofs, rfl, hg, hcell⟩ := Di.open_ (by rw [ints_len, HXn.out]; omega)
            have cx := intAt hcell hjl
            have HF := hid (freeB_one HB.out hjl)
            obtain ⟨x, hx⟩ : ∃ x, xs[j] = x := ⟨_, rfl⟩
            rw [hx] at cx HF
            have b3 : (0 : Int) ≤ (j : Int) := by omega
            have b4 : (j : Int) < (m : Int) := by omega
            clear hx hcell e3
            go_wp2_with fail
            refine (e4 _ (Li.alloc _) _ x (lies_one _ _ x)).mono ?_
            rintro e w9 ⟨he, hg9⟩
            rw [HF.out] at he
            subst he
            go_wp2_with fail
            go_roundw
            case rel => exact ⟨j + 1, by go_num, by omega, gr_0 (gr_alloc hgi _) hg9⟩
            case measure => simp [intOf]; omega
          · obtain rfl : j = m := by omega
            go_wp2_with fail
            go_ret
            exact ⟨rfl, gr_0 Go hgi⟩

end Go.Proofs.Ytcchnkpkdeminaa
