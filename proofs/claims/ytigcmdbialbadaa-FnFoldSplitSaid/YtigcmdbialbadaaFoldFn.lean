/- The walks of FnFoldPart, FnFoldOf, FnFoldSum. -/
import Derived.Test.YtigcmdbialbadaaFoldOf
import Derived.Test.YtigcmdbialbadaaFoldDraw
import Derived.BigQuiet
import Derived.Deep.QuietTactic
namespace Go.Proofs.Ytigcmdbialbadaa
open Go.RowKit

theorem fdB_more (v : Int) (t : ByteArray) (h : -1 ≤ v) : fdB v (999 * (v + 1) + 1) t = false := by
  rcases (by omega : v = -1 ∨ 0 ≤ v) with q | q
  · subst q; simp [fdB]
  · exact fdB_sum t q (.inr (by omega))
theorem fdB_less (v : Int) (t : ByteArray) (h : -1 ≤ v) : fdB v (-1) t = false := by
  rcases (by omega : v = -1 ∨ 0 ≤ v) with q | q
  · subst q; simp [fdB]
  · exact fdB_sum t q (.inl (by omega))

set_option maxHeartbeats 1000000 in
theorem foldPart_walk (A : Option Addr) (n c : Nat) (zs : List Int) (w : World) (h : Code w A n c zs) :
    Calls Try.prog 3 #[.slice A n c] w fun e w' => e = .returned (.bool true) ∧ w.grownBy w' none := by
  have hc := h.cap
  have hm := h.max
  unfold maxLen at hm
  by_cases h1 : n > 1048576
  · go_enter Try.func3, Try.ntmps3
    go_wp2
    go_ret
    exact ⟨rfl, gr_refl _ _⟩
  go_enter Try.func3, Try.ntmps3
  go_wp2_with fail
  refine (dfv_any A n c zs _ h).mono ?_
  rintro e w1 ⟨v, s, t, rfl, hsm, hg1⟩
  have v0 := hsm.v0
  have v1 := hsm.v1
  have s0 := hsm.s0
  have s1 := hsm.s1
  have ht : t.size ≤ maxLen := by have := hsm.t1; unfold maxLen; omega
  obtain ⟨b, hb⟩ : ∃ b, fdB v s t = b := ⟨_, rfl⟩
  have e1 := fun w => fv_is v s t b w ht hb
  have e2 := fun w => sfv_is v s t b w ht hb
  have e3 := fun w => fv_is v (999 * (v + 1) + 1) t false w ht (fdB_more v t v0)
  have e4 := fun w => fv_is v (-1) t false w ht (fdB_less v t v0)
  clear hb ht hsm
  have P1 := Full.new w1 24 #[.int .i64 v, .int .i64 s, .string t]
  have G1 := gr_alloc hg1 (.cells #[.int .i64 v, .int .i64 s, .string t] 24)
  clear hg1
  go_wp2_with fail
  refine (e1 _).mono ?_
  rintro e w2 ⟨rfl, hg2⟩
  have P2 := P1.grown hg2 (by simp)
  have G2 := gr_0 G1 hg2
  clear hg2
  have pc0 := P2.cellAt 0 rfl
  have pc1 := P2.cellAt 1 rfl
  have pc2 := P2.cellAt 2 rfl
  go_wp2_with fail
  refine (e2 _).mono ?_
  rintro e w3 ⟨rfl, hg3⟩
  have P3 := P2.grown hg3 (by simp)
  have G3 := gr_0 G2 hg3
  clear hg3
  have pc0 := P3.cellAt 0 rfl
  have pc1 := P3.cellAt 1 rfl
  have pc2 := P3.cellAt 2 rfl
  cases b with
  | false =>
    go_wp2_with fail
    go_ret
    exact ⟨rfl, G3⟩
  | true =>
    have hlt3 := P3.lt
    have ne1 : w3.heap.size ≠ w1.heap.size := by omega
    have ne2 := ne1.symm
    have ne3 : w3.heap.size + 1 ≠ w1.heap.size := by omega
    have ne4 := ne3.symm
    have X3 := (Full.new w3 24 #[.int .i64 v, .int .i64 (999 * (v + 1) + 1), .string t]).alloc (.cells #[.int .i64 v, .int .i64 (-1), .string t] 24)
    have Y3 := Full.newAt (w := w3.alloc (.cells #[.int .i64 v, .int .i64 (999 * (v + 1) + 1), .string t] 24)) (t := 24) (cs := #[.int .i64 v, .int .i64 (-1), .string t]) (H := w3.heap.size + 1) (by simp)
    have G3b := gr_alloc (gr_alloc G3 (.cells #[.int .i64 v, .int .i64 (999 * (v + 1) + 1), .string t] 24)) (.cells #[.int .i64 v, .int .i64 (-1), .string t] 24)
    go_wp2_with fail
    refine (e3 _).mono ?_
    rintro e w4 ⟨rfl, hg4⟩
    have Y4 := Y3.grown hg4 (by simp)
    have G4 := gr_0 G3b hg4
    clear hg4
    have yc0 := Y4.cellAt 0 rfl
    have yc1 := Y4.cellAt 1 rfl
    have yc2 := Y4.cellAt 2 rfl
    go_wp2_with fail
    refine (e4 _).mono ?_
    rintro e w5 ⟨rfl, hg5⟩
    have Y5 := Y4.grown hg5 (by simp)
    have G5 := gr_0 G4 hg5
    clear hg5
    go_wp2_with fail
    go_ret
    exact ⟨rfl, G5⟩

set_option maxHeartbeats 1000000 in
theorem foldOf_walk (A : Option Addr) (n c : Nat) (zs : List Int) (w : World) (h : Code w A n c zs) :
    Calls Try.prog 4 #[.slice A n c] w fun e w' => e = .returned (.bool true) ∧ w.grownBy w' none := by
  have hc := h.cap
  have hm := h.max
  unfold maxLen at hm
  by_cases h1 : n > 1048576
  · go_enter Try.func4, Try.ntmps4
    go_wp2
    go_ret
    exact ⟨rfl, gr_refl _ _⟩
  go_enter Try.func4, Try.ntmps4
  go_wp2_with fail
  refine (dfo_any A n c zs _ h).mono ?_
  rintro e w1 ⟨B, N, C, l, rfl, hO, hl, hN, hsm, hg1⟩
  have hC := hO.cap
  have hCm := hO.max
  have hks : ∀ x ∈ l, x.kind.size ≤ maxLen := fun x hx => by have := (hsm x hx).kind; simp only [maxLen]; omega
  obtain ⟨b, hb⟩ : ∃ b, foB fd0 l = b := ⟨_, rfl⟩
  obtain ⟨y, hy⟩ : ∃ y, foV fd0 l = y := ⟨_, rfl⟩
  obtain ⟨v, s, t⟩ := y
  have e1 := fun w hL => of_fold B N C l w hL hl hC hCm hks
  have e2 := fun w hL => sof_fold B N C l w hL hl hC hCm hks
  simp only [hb, hy] at e1 e2
  have HL := hid hl
  have HB := hid hb
  have HY := hid hy
  have HK := hid hks
  have hB := hid (fun b hb => (hO.block (b := b) hb).2)
  have L1 := hO.lies
  clear hl hb hy hks hO hsm
  unfold maxLen at hCm
  go_wp2_with fail
  refine (e1 _ L1).mono ?_
  rintro e w2 ⟨rfl, hg2⟩
  have L2 := L1.grown0 hg2
  have G2 := gr_0 hg1 hg2
  clear hg2
  have P2 := Full.new w2 24 #[.int .i64 v, .int .i64 s, .string t]
  have L2b := L2.alloc (.cells #[.int .i64 v, .int .i64 s, .string t] 24)
  have G2b := gr_alloc G2 (.cells #[.int .i64 v, .int .i64 s, .string t] 24)
  go_wp2_with fail
  refine (e2 _ L2b).mono ?_
  rintro e w3 ⟨rfl, hg3⟩
  have L3 := L2b.grown0 hg3
  have G3 := gr_0 G2b hg3
  have P3 := P2.grown hg3 (by simp)
  clear hg3
  have Q3 := Full.new w3 24 #[.int .i64 v, .int .i64 s, .string t]
  have L3b := L3.alloc (.cells #[.int .i64 v, .int .i64 s, .string t] 24)
  have G3b := gr_alloc G3 (.cells #[.int .i64 v, .int .i64 s, .string t] 24)
  have P3b := P3.alloc (.cells #[.int .i64 v, .int .i64 s, .string t] 24)
  clear e1 e2
  have pc0 := P3b.cellAt 0 rfl
  have pc1 := P3b.cellAt 1 rfl
  have pc2 := P3b.cellAt 2 rfl
  cases b with
  | false =>
    go_wp2_with fail
    go_ret
    first | exact ⟨rfl, G3b⟩ | exact ⟨ret_bool (by simp), G3b⟩
  | true =>
    obtain ⟨p1, p2, p3⟩ := foB_parts HB.out
    have hF : foldF fd0 l = ⟨v, s, t⟩ := by rw [← foV_yes HB.out]; exact HY.out
    have hev := (evsB_all p2).2
    have hv := foldF_v fd0 l
    rw [hF, HL.out] at hv
    simp only [fd0] at hv
    rw [hF] at p3
    have P1 := hid p1
    have P2 := hid p2
    have P3 := hid (show fdB v s t = true from p3)
    have HF := hid hF
    have HE := hid hev
    clear p1 p2 p3 hF hev
    have hts : t.size ≤ maxLen := by
      rcases Nat.eq_zero_or_pos l.length with h0 | h0
      · have h1 : l = [] := List.eq_nil_of_length_eq_zero h0
        have h2 := HF.out
        rw [h1] at h2
        have : fd0 = ⟨v, s, t⟩ := h2
        injection this with _ _ e3
        rw [← e3]; decide
      · have := foldF_t fd0 h0
        rw [HF.out] at this
        rw [show t = _ from this]
        exact HK.out _ (List.getElem_mem _)
    have e3 := fun w => fv_is v s t true w hts P3.out
    have hv1 : (v == (N : Int) - 1) = true := by simp; omega
    clear hts hv
    go_wp2_with fail
    refine (e3 _).mono ?_
    rintro e w4 ⟨rfl, hg4⟩
    have L4 := L3b.grown0 hg4
    have G4 := gr_0 G3b hg4
    have P4 := P3b.grown hg4 (by simp)
    have Q4 := Q3.grown hg4 (by simp)
    clear hg4
    have pc0 := P4.cellAt 0 rfl
    have pc1 := P4.cellAt 1 rfl
    have pc2 := P4.cellAt 2 rfl
    go_wp2_with fail
    go_ret
    first | exact ⟨rfl, G4⟩ | exact ⟨ret_bool (by simp), G4⟩

set_option maxHeartbeats 2000000 in
theorem foldSum_walk (A : Option Addr) (n c : Nat) (zs : List Int) (w : World) (h : Code w A n c zs) :
    Calls Try.prog 6 #[.slice A n c] w fun e w' => e = .returned (.bool true) ∧ w.grownBy w' none := by
  have hc := h.cap
  have hm := h.max
  unfold maxLen at hm
  by_cases h1 : n > 1048576
  · go_enter Try.func6, Try.ntmps6
    go_wp2
    go_ret
    exact ⟨rfl, gr_refl _ _⟩
  go_enter Try.func6, Try.ntmps6
  go_wp2_with fail
  refine (dfo_any A n c zs _ h).mono ?_
  rintro e w1 ⟨B, N, C, l, rfl, hO, hl, hN, hsm, hg1⟩
  have hC := hO.cap
  have hCm := hO.max
  have hks : ∀ x ∈ l, x.kind.size ≤ maxLen := fun x hx => by have := (hsm x hx).kind; simp only [maxLen]; omega
  obtain ⟨b, hb⟩ : ∃ b, foB fd0 l = b := ⟨_, rfl⟩
  obtain ⟨y, hy⟩ : ∃ y, foV fd0 l = y := ⟨_, rfl⟩
  obtain ⟨v, s, t⟩ := y
  have e1 := fun w hL => of_fold B N C l w hL hl hC hCm hks
  have e2 := fun w hL => sof_fold B N C l w hL hl hC hCm hks
  simp only [hb, hy] at e1 e2
  have HL := hid hl
  have HB := hid hb
  have HY := hid hy
  have HK := hid hks
  have hB := hid (fun b hb => (hO.block (b := b) hb).2)
  have L1 := hO.lies
  clear hl hb hy hks hO hsm
  unfold maxLen at hCm
  go_wp2_with fail
  refine (e1 _ L1).mono ?_
  rintro e w2 ⟨rfl, hg2⟩
  have L2 := L1.grown0 hg2
  have G2 := gr_0 hg1 hg2
  clear hg2
  have P2 := Full.new w2 24 #[.int .i64 v, .int .i64 s, .string t]
  have L2b := L2.alloc (.cells #[.int .i64 v, .int .i64 s, .string t] 24)
  have G2b := gr_alloc G2 (.cells #[.int .i64 v, .int .i64 s, .string t] 24)
  go_wp2_with fail
  refine (e2 _ L2b).mono ?_
  rintro e w3 ⟨rfl, hg3⟩
  have L3 := L2b.grown0 hg3
  have G3 := gr_0 G2b hg3
  have P3 := P2.grown hg3 (by simp)
  clear hg3
  have Q3 := Full.new w3 24 #[.int .i64 v, .int .i64 s, .string t]
  have L3b := L3.alloc (.cells #[.int .i64 v, .int .i64 s, .string t] 24)
  have G3b := gr_alloc G3 (.cells #[.int .i64 v, .int .i64 s, .string t] 24)
  have P3b := P3.alloc (.cells #[.int .i64 v, .int .i64 s, .string t] 24)
  clear e1 e2
  have pc0 := P3b.cellAt 0 rfl
  have pc1 := P3b.cellAt 1 rfl
  have pc2 := P3b.cellAt 2 rfl
  cases b with
  | false =>
    go_wp2_with fail
    go_ret
    first | exact ⟨rfl, G3b⟩ | exact ⟨ret_bool (by simp), G3b⟩
  | true =>
    obtain ⟨p1, p2, p3⟩ := foB_parts HB.out
    have hF : foldF fd0 l = ⟨v, s, t⟩ := by rw [← foV_yes HB.out]; exact HY.out
    have hev := (evsB_all p2).2
    have hv := foldF_v fd0 l
    rw [hF, HL.out] at hv
    simp only [fd0] at hv
    rw [hF] at p3
    have P1 := hid p1
    have P2 := hid p2
    have P3 := hid (show fdB v s t = true from p3)
    have HF := hid hF
    have HE := hid hev
    clear p1 p2 p3 hF hev
    have hss := foldF_s fd0 l
    rw [HF.out] at hss
    simp only [fd0] at hss
    have hsb := sumE_bound HE.out
    rw [HL.out] at hsb
    clear hv
    have HSS := hid hss
    clear hss
    rcases (by omega : N = 0 ∨ 0 < N) with h0 | h0
    · have hz : ((N : Int) == 0) = true := by simp [h0]
      clear h0
      go_wp2_with fail
      go_ret
      first | exact ⟨rfl, G3b⟩ | exact ⟨ret_bool (by simp), G3b⟩
    · have hz : ((N : Int) == 0) = false := by simp; omega
      go_wp2_with fail
      go_loop [8, 9] (fun v i => ∃ k : Nat, i = .int .i64 k ∧ v = .int .i64 (sumE (l.take k)) ∧ k ≤ N) (fun _ i => N - (intOf i).toNat)
      case atStart => exact ⟨0, rfl, rfl, by omega⟩
      case round =>
        obtain ⟨k, rfl, rfl, hkN⟩ := hrel
        have hb1 := sumE_bound (l := l.take k) (fun e he => HE.out e (List.mem_of_mem_take he))
        rw [List.length_take, HL.out, Nat.min_eq_left hkN] at hb1
        obtain ⟨S, hS⟩ : ∃ S, sumE (l.take k) = S := ⟨_, rfl⟩
        rw [hS] at hb1
        obtain ⟨hS0, hS1⟩ := hb1
        have hS2 : S ≤ 100000 := by omega
        rw [hS]
        have HS := hid hS
        clear hS hS1
        obtain ⟨g, o, rfl, hg, hcell⟩ := L3b.open_ (by rw [flat_len Ev.cells 3 (fun _ => rfl), HL.out]; omega)
        by_cases hlt : k < N
        · have hkl : k < l.length := by rw [HL.out]; exact hlt
          obtain ⟨ca, cb, cd⟩ := evAt hcell hkl
          have hev := (evB_parts (HE.out _ (List.getElem_mem hkl))).2.2
          obtain ⟨z, hz⟩ : ∃ z, z = l[k] := ⟨_, rfl⟩
          rw [← hz] at ca cb cd hev
          obtain ⟨i, kd, d⟩ := z
          simp only [] at ca cb cd hev
          obtain ⟨hd0, hd1⟩ := hev
          have HN2 := hid (show sumE (l.take (k + 1)) = S + d by
            rw [List.take_succ_eq_append_getElem hkl, ← hz]
            simp [sumE, ← HS.out])
          clear hz hcell
          go_wp2_with fail
          go_round
          case rel => exact ⟨k + 1, by go_num, by rw [HN2.out], by omega⟩
          case measure => simp [intOf]; omega
        · obtain rfl : k = N := by omega
          have hkl : k - 1 < l.length := by rw [HL.out]; omega
          have hft := foldF_t fd0 (l := l) (by rw [HL.out]; omega)
          rw [HF.out] at hft
          simp only [HL.out] at hft
          obtain ⟨ca, cb, cd⟩ := evAt hcell hkl
          rw [← hft] at cb
          have hSs : s = S := by have := HSS.out; rw [← HS.out, List.take_of_length_le (by rw [HL.out]; omega)]; omega
          have hSe : (s == S) = true := by simp [hSs]
          have b1 : (0 : Int) ≤ (k : Int) - 1 := by omega
          have b2 : (k : Int) - 1 < (k : Int) := by omega
          have b3 : ((k : Int) - 1).toNat = k - 1 := by omega
          clear hft hSs hcell hkl ca cd
          go_wp2_with fail
          go_quiet (fail)
          go_wp2_with fail
          go_ret
          exact ⟨ret_bool (by simp), gr_drewN G3b _⟩

end Go.Proofs.Ytigcmdbialbadaa
