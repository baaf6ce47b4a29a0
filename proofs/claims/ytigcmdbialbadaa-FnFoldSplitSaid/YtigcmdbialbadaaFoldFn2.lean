/- The walks of FnFoldOnNone, FnFoldOn, FnFoldSplit. -/
import Derived.Test.YtigcmdbialbadaaFoldFn
import Derived.Test.YtigcmdbialbadaaApp
import Derived.Deep.DeepCutAuto
namespace Go.Proofs.Ytigcmdbialbadaa
open Go.RowKit

set_option maxRecDepth 100000 in
set_option maxHeartbeats 2000000 in
theorem foldOn_walk (A : Option Addr) (n c : Nat) (zs : List Int) (w : World) (h : Code w A n c zs) :
    Calls Try.prog 8 #[.slice A n c] w fun e w' => e = .returned (.bool true) ∧ w.grownBy w' none := by
  have hc := h.cap
  have hm := h.max
  unfold maxLen at hm
  by_cases h1 : n > 1048576
  · go_enter Try.func8, Try.ntmps8
    go_wp2
    go_ret
    exact ⟨rfl, gr_refl _ _⟩
  go_enter Try.func8, Try.ntmps8
  go_wp2_with fail
  refine (dfn_any A n c zs _ h).mono ?_
  rintro e w1 ⟨v0, s0, t0, B, N, C, l, rfl, hsm0, hO, hl, hN, hsm, hg1⟩
  have hC := hO.cap
  have hCm := hO.max
  have hv0 := hsm0.v0
  have hv1 := hsm0.v1
  have hs0 := hsm0.s0
  have hs1 := hsm0.s1
  have ht0 : t0.size ≤ maxLen := by have := hsm0.t1; unfold maxLen; omega
  have hks : ∀ x ∈ l, x.kind.size ≤ maxLen := fun x hx => by have := (hsm x hx).kind; simp only [maxLen]; omega
  obtain ⟨b, hb⟩ : ∃ b, foB ⟨v0, s0, t0⟩ l = b := ⟨_, rfl⟩
  obtain ⟨y, hy⟩ : ∃ y, foV ⟨v0, s0, t0⟩ l = y := ⟨_, rfl⟩
  obtain ⟨v, s, t⟩ := y
  have e1 := fun w hL => fo_any v0 s0 t0 B N C l w hL hl hC hCm ht0 hks
  have e2 := fun w hL => sfo_any v0 s0 t0 B N C l w hL hl hC hCm hks ht0
  simp only [hb, hy] at e1 e2
  have e7 := fun w hL => of_fold B N C l w hL hl hC hCm hks
  have HL := hid hl
  have HB := hid hb
  have HY := hid hy
  have HK := hid hks
  have HT := hid ht0
  have L1 := hO.lies.alloc (.cells #[.int .i64 v0, .int .i64 s0, .string t0] 24)
  have C1 := Full.new w1 24 #[.int .i64 v0, .int .i64 s0, .string t0]
  have G1 := gr_alloc hg1 (.cells #[.int .i64 v0, .int .i64 s0, .string t0] 24)
  clear hl hb hy hks hO hsm hg1 ht0
  unfold maxLen at hCm
  go_wp2_with fail
  refine (e1 _ L1).mono ?_
  rintro e w2 ⟨rfl, hg2⟩
  have L2 := L1.grown0 hg2
  have C2 := C1.grown hg2 (by simp)
  have G2 := gr_0 G1 hg2
  clear hg2
  have P2 := Full.new w2 24 #[.int .i64 v, .int .i64 s, .string t]
  have L2b := L2.alloc (.cells #[.int .i64 v, .int .i64 s, .string t] 24)
  have C2b := C2.alloc (.cells #[.int .i64 v, .int .i64 s, .string t] 24)
  have G2b := gr_alloc G2 (.cells #[.int .i64 v, .int .i64 s, .string t] 24)
  have cc0 := C2b.cellAt 0 rfl
  have cc1 := C2b.cellAt 1 rfl
  have cc2 := C2b.cellAt 2 rfl
  go_wp2_with fail
  refine (e2 _ L2b).mono ?_
  rintro e w3 ⟨rfl, hg3⟩
  have L3 := L2b.grown0 hg3
  have C3 := C2b.grown hg3 (by simp)
  have G3 := gr_0 G2b hg3
  have P3 := P2.grown hg3 (by simp)
  clear hg3
  have Q3 := Full.new w3 24 #[.int .i64 v, .int .i64 s, .string t]
  have L3b := L3.alloc (.cells #[.int .i64 v, .int .i64 s, .string t] 24)
  have C3b := C3.alloc (.cells #[.int .i64 v, .int .i64 s, .string t] 24)
  have G3b := gr_alloc G3 (.cells #[.int .i64 v, .int .i64 s, .string t] 24)
  have P3b := P3.alloc (.cells #[.int .i64 v, .int .i64 s, .string t] 24)
  clear e1 e2
  have pc0 := P3b.cellAt 0 rfl
  have pc1 := P3b.cellAt 1 rfl
  have pc2 := P3b.cellAt 2 rfl
  have cc0 := C3b.cellAt 0 rfl
  have cc1 := C3b.cellAt 1 rfl
  have cc2 := C3b.cellAt 2 rfl
  cases b with
  | false =>
    go_wp2_with fail
    go_ret
    first | exact ⟨rfl, G3b⟩ | exact ⟨ret_bool (by simp), G3b⟩
  | true =>
    obtain ⟨p1, p2, p3⟩ := foB_parts HB.out
    have hF : foldF ⟨v0, s0, t0⟩ l = ⟨v, s, t⟩ := by rw [← foV_yes HB.out]; exact HY.out
    have hev := (evsB_all p2).2
    have P1 := hid p1
    have P2 := hid p2
    rw [hF] at p3
    have P3 := hid (show fdB v s t = true from p3)
    have HF := hid hF
    have HE := hid hev
    clear p1 p2 p3 hF hev
    have hv := foldF_v ⟨v0, s0, t0⟩ l
    have hs := foldF_s ⟨v0, s0, t0⟩ l
    rw [HF.out, HL.out] at hv
    rw [HF.out] at hs
    simp only [] at hv hs
    obtain ⟨z, hz⟩ : ∃ z, foV fd0 l = z := ⟨_, rfl⟩
    obtain ⟨zv, zs, zt⟩ := z
    have hb0 : foB fd0 l = true := by rw [fo0_B]; exact P2.out
    simp only [hz, hb0] at e7
    have hz2 := foldF_s fd0 l
    rw [← foV_yes hb0, hz] at hz2
    simp only [fd0] at hz2
    have hsum : (s == s0 + zs) = true := by simp; omega
    have hver : (v == v0 + (N : Int)) = true := by simp; omega
    have hsb := sumE_bound HE.out
    rw [HL.out] at hsb
    have hz3 : 0 ≤ zs := by omega
    have hz4 : zs ≤ 100000 := by omega
    have hts : t.size ≤ maxLen := by
      rcases Nat.eq_zero_or_pos l.length with h0 | h0
      · have h1 : l = [] := List.eq_nil_of_length_eq_zero h0
        have h2 := HF.out
        rw [h1] at h2
        have : (⟨v0, s0, t0⟩ : Fd) = ⟨v, s, t⟩ := h2
        injection this with _ _ e3
        rw [← e3]; exact HT.out
      · have := foldF_t ⟨v0, s0, t0⟩ h0
        rw [HF.out] at this
        rw [show t = _ from this]
        exact HK.out _ (List.getElem_mem _)
    have e3 := fun w => fv_is v s t true w hts P3.out
    clear hz hb0 hz2 hv hs hts hsb
    go_wp2_with fail
    refine (e7 _ L3b).mono ?_
    rintro e w4 ⟨rfl, hg4⟩
    have L4 := L3b.grown0 hg4
    have C4 := C3b.grown hg4 (by simp)
    have G4 := gr_0 G3b hg4
    have P4 := P3b.grown hg4 (by simp)
    have Q4 := Q3.grown hg4 (by simp)
    clear hg4
    have Z4 := Full.new w4 24 #[.int .i64 zv, .int .i64 zs, .string zt]
    have C4b := C4.alloc (.cells #[.int .i64 zv, .int .i64 zs, .string zt] 24)
    have G4b := gr_alloc G4 (.cells #[.int .i64 zv, .int .i64 zs, .string zt] 24)
    have P4b := P4.alloc (.cells #[.int .i64 zv, .int .i64 zs, .string zt] 24)
    have pc0 := P4b.cellAt 0 rfl
    have pc1 := P4b.cellAt 1 rfl
    have pc2 := P4b.cellAt 2 rfl
    have cc0 := C4b.cellAt 0 rfl
    have cc1 := C4b.cellAt 1 rfl
    have cc2 := C4b.cellAt 2 rfl
    go_wp2_with fail
    refine (e3 _).mono ?_
    rintro e w5 ⟨rfl, hg5⟩
    have C5 := C4b.grown hg5 (by simp)
    have G5 := gr_0 G4b hg5
    have P5 := P4b.grown hg5 (by simp)
    have Z5 := Z4.grown hg5 (by simp)
    clear hg5
    have pc0 := P5.cellAt 0 rfl
    have pc1 := P5.cellAt 1 rfl
    have pc2 := P5.cellAt 2 rfl
    have cc0 := C5.cellAt 0 rfl
    have cc1 := C5.cellAt 1 rfl
    have cc2 := C5.cellAt 2 rfl
    have zc0 := Z5.cellAt 0 rfl
    have zc1 := Z5.cellAt 1 rfl
    have zc2 := Z5.cellAt 2 rfl
    go_wp2_with fail
    go_ret
    first | exact ⟨rfl, G5⟩ | exact ⟨ret_bool (by simp), G5⟩

set_option maxRecDepth 100000 in
set_option maxHeartbeats 2000000 in
theorem foldOnNone_walk (A : Option Addr) (n c : Nat) (zs : List Int) (w : World) (h : Code w A n c zs) :
    Calls Try.prog 7 #[.slice A n c] w fun e w' => e = .returned (.bool true) ∧ w.grownBy w' none := by
  have hc := h.cap
  have hm := h.max
  unfold maxLen at hm
  by_cases h1 : n > 1048576
  · go_enter Try.func7, Try.ntmps7
    go_wp2
    go_ret
    exact ⟨rfl, gr_refl _ _⟩
  go_enter Try.func7, Try.ntmps7
  go_wp2_with fail
  refine (dfn_any A n c zs _ h).mono ?_
  rintro e w1 ⟨v0, s0, t0, B, N, C, l, rfl, hsm0, hO, hl, hN, hsm, hg1⟩
  have hC := hO.cap
  have hCm := hO.max
  have hv0 := hsm0.v0
  have hv1 := hsm0.v1
  have hs0 := hsm0.s0
  have hs1 := hsm0.s1
  have ht0 : t0.size ≤ maxLen := by have := hsm0.t1; unfold maxLen; omega
  have hks : ∀ x ∈ l, x.kind.size ≤ maxLen := fun x hx => by have := (hsm x hx).kind; simp only [maxLen]; omega
  obtain ⟨b, hb⟩ : ∃ b, foB ⟨v0, s0, t0⟩ l = b := ⟨_, rfl⟩
  obtain ⟨y, hy⟩ : ∃ y, foV ⟨v0, s0, t0⟩ l = y := ⟨_, rfl⟩
  obtain ⟨v, s, t⟩ := y
  have e1 := fun w hL => fo_any v0 s0 t0 B N C l w hL hl hC hCm ht0 hks
  have e2 := fun w hL => sfo_any v0 s0 t0 B N C l w hL hl hC hCm hks ht0
  simp only [hb, hy] at e1 e2
  have e7 := fun w hL => of_fold B N C l w hL hl hC hCm hks
  have HL := hid hl
  have HB := hid hb
  have HY := hid hy
  have HK := hid hks
  have HT := hid ht0
  have L1 := hO.lies.alloc (.cells #[.int .i64 v0, .int .i64 s0, .string t0] 24)
  have C1 := Full.new w1 24 #[.int .i64 v0, .int .i64 s0, .string t0]
  have G1 := gr_alloc hg1 (.cells #[.int .i64 v0, .int .i64 s0, .string t0] 24)
  clear hl hb hy hks hO hsm hg1 ht0
  unfold maxLen at hCm
  go_wp2_with fail
  refine (e1 _ L1).mono ?_
  rintro e w2 ⟨rfl, hg2⟩
  have L2 := L1.grown0 hg2
  have C2 := C1.grown hg2 (by simp)
  have G2 := gr_0 G1 hg2
  clear hg2
  have P2 := Full.new w2 24 #[.int .i64 v, .int .i64 s, .string t]
  have L2b := L2.alloc (.cells #[.int .i64 v, .int .i64 s, .string t] 24)
  have C2b := C2.alloc (.cells #[.int .i64 v, .int .i64 s, .string t] 24)
  have G2b := gr_alloc G2 (.cells #[.int .i64 v, .int .i64 s, .string t] 24)
  have cc0 := C2b.cellAt 0 rfl
  have cc1 := C2b.cellAt 1 rfl
  have cc2 := C2b.cellAt 2 rfl
  go_wp2_with fail
  refine (e2 _ L2b).mono ?_
  rintro e w3 ⟨rfl, hg3⟩
  have L3 := L2b.grown0 hg3
  have C3 := C2b.grown hg3 (by simp)
  have G3 := gr_0 G2b hg3
  have P3 := P2.grown hg3 (by simp)
  clear hg3
  have Q3 := Full.new w3 24 #[.int .i64 v, .int .i64 s, .string t]
  have L3b := L3.alloc (.cells #[.int .i64 v, .int .i64 s, .string t] 24)
  have C3b := C3.alloc (.cells #[.int .i64 v, .int .i64 s, .string t] 24)
  have G3b := gr_alloc G3 (.cells #[.int .i64 v, .int .i64 s, .string t] 24)
  have P3b := P3.alloc (.cells #[.int .i64 v, .int .i64 s, .string t] 24)
  clear e1 e2
  have pc0 := P3b.cellAt 0 rfl
  have pc1 := P3b.cellAt 1 rfl
  have pc2 := P3b.cellAt 2 rfl
  have cc0 := C3b.cellAt 0 rfl
  have cc1 := C3b.cellAt 1 rfl
  have cc2 := C3b.cellAt 2 rfl
  cases b with
  | false =>
    go_wp2_with fail
    go_ret
    first | exact ⟨rfl, G3b⟩ | exact ⟨ret_bool (by simp), G3b⟩
  | true =>
    obtain ⟨p1, p2, p3⟩ := foB_parts HB.out
    have hF : foldF ⟨v0, s0, t0⟩ l = ⟨v, s, t⟩ := by rw [← foV_yes HB.out]; exact HY.out
    have hev := (evsB_all p2).2
    have P1 := hid p1
    have P2 := hid p2
    rw [hF] at p3
    have P3 := hid (show fdB v s t = true from p3)
    have HF := hid hF
    have HE := hid hev
    clear p1 p2 p3 hF hev
    have hb8 : foB ⟨v0, s0, t0⟩ [] = true := by
      have h1 : evsB [] = true := by decide
      have h2 : foldF ⟨v0, s0, t0⟩ [] = ⟨v0, s0, t0⟩ := rfl
      rw [foB, P1.out, h1, h2, P1.out]; rfl
    have hv8 : foV ⟨v0, s0, t0⟩ [] = ⟨v0, s0, t0⟩ := foV_yes hb8
    have e8 := fun A w => fo_any v0 s0 t0 A 0 0 [] w (.inl rfl) rfl (Nat.le_refl _) (by simp [maxLen]) HT.out (by simp)
    simp only [hb8, hv8] at e8
    clear hb8 hv8 e7
    go_wp2_with fail
    refine (e8 _ _).mono ?_
    rintro e w4 ⟨rfl, hg4⟩
    have L4 := (L3b.alloc _).grown0 hg4
    have C4 := (C3b.alloc _).grown hg4 (by simp)
    have G4 := gr_0 (gr_alloc G3b _) hg4
    have P4 := (P3b.alloc _).grown hg4 (by simp)
    have Q4 := (Q3.alloc _).grown hg4 (by simp)
    clear hg4
    have Z4 := Full.new w4 24 #[.int .i64 v0, .int .i64 s0, .string t0]
    have L4b := L4.alloc (.cells #[.int .i64 v0, .int .i64 s0, .string t0] 24)
    have C4b := C4.alloc (.cells #[.int .i64 v0, .int .i64 s0, .string t0] 24)
    have G4b := gr_alloc G4 (.cells #[.int .i64 v0, .int .i64 s0, .string t0] 24)
    have P4b := P4.alloc (.cells #[.int .i64 v0, .int .i64 s0, .string t0] 24)
    have pc0 := P4b.cellAt 0 rfl
    have pc1 := P4b.cellAt 1 rfl
    have pc2 := P4b.cellAt 2 rfl
    have cc0 := C4b.cellAt 0 rfl
    have cc1 := C4b.cellAt 1 rfl
    have cc2 := C4b.cellAt 2 rfl
    have zc0 := Z4.cellAt 0 rfl
    have zc1 := Z4.cellAt 1 rfl
    have zc2 := Z4.cellAt 2 rfl
    rcases (by omega : N = 0 ∨ 0 < N) with h0 | h0
    · have hz : ((N : Int) == 0) = true := by simp [h0]
      clear h0
      go_wp2_with fail
      go_quiet (fail)
      go_wp2_with fail
      go_ret
      first | exact ⟨rfl, gr_drewN G4b _⟩ | exact ⟨ret_bool (by simp), gr_drewN G4b _⟩
    · have hz : ((N : Int) == 0) = false := by simp; omega
      obtain ⟨g, o, rfl, hg, hcell⟩ := L4b.open_ (by rw [flat_len Ev.cells 3 (fun _ => rfl), HL.out]; omega)
      have hkl : N - 1 < l.length := by rw [HL.out]; omega
      have hft := foldF_t ⟨v0, s0, t0⟩ (l := l) (by rw [HL.out]; omega)
      rw [HF.out] at hft
      simp only [HL.out] at hft
      obtain ⟨_, cb, _⟩ := evAt hcell hkl
      rw [← hft] at cb
      have b1 : (0 : Int) ≤ (N : Int) - 1 := by omega
      have b2 : (N : Int) - 1 < (N : Int) := by omega
      have b3 : ((N : Int) - 1).toNat = N - 1 := by omega
      clear hft hcell
      go_wp2_with fail
      go_quiet (fail)
      go_wp2_with fail
      go_ret
      first | exact ⟨rfl, gr_drewN G4b _⟩ | exact ⟨ret_bool (by simp), gr_drewN G4b _⟩

end Go.Proofs.Ytigcmdbialbadaa
