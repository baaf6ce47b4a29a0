/- The walks of FnWaits, FnWaitsNone, FnUpTo. -/
import Derived.Test.YtfcammfdengdbaaBarUp
import Derived.Test.YtfcammfdengdbaaBarDraw
import Derived.Test.YtfcammfdengdbaaHasInt
namespace Go.Proofs.Ytfcammfdengdbaa
open Go.RowKit

/-- A drawn barrier. -/
def BrEnds (w : World) (e : Ending) (w' : World) : Prop :=
  ∃ (d : Int) (A : Option Addr) (n c : Nat) (xs : List Int), e = .returned (.agg #[.int .i64 d, .slice A n c]) ∧ IArg w' A n c xs ∧ (∀ g, blockOf A = some g → g < w'.heap.size) ∧ BrSmall d xs ∧ w.grownBy w' none

theorem wait_nonneg {d : Int} {xs : List Int} (h : barB d xs = true) : 0 ≤ barWait d xs := by
  rw [barWait_yes h]
  obtain ⟨h1, h2⟩ := barB_parts h
  cases xs with
  | nil => simp [headOr]
  | cons x xs =>
    obtain ⟨a, b, c⟩ := asc_head h2
    have := asc_len c b
    rw [List.length_cons]
    simp only [headOr]
    omega
theorem up_least {d : Int} {xs : List Int} (h : barB d xs = true) : ∀ y ∈ xs, headOr d xs ≤ y := by
  obtain ⟨_, h2⟩ := barB_parts h
  cases xs with
  | nil => simp
  | cons x xs =>
    obtain ⟨_, _, h3⟩ := asc_head h2
    intro y hy
    rcases List.mem_cons.1 hy with rfl | hy
    · exact Int.le_refl _
    · have := asc_mem h3 y hy
      simp only [headOr]; omega
theorem headOr_mem (d : Int) (xs : List Int) : headOr d xs = d ∨ headOr d xs ∈ xs := by
  cases xs with
  | nil => exact .inl rfl
  | cons x xs => exact .inr (by simp [headOr])

set_option maxHeartbeats 1000000 in
theorem dbv_any (A : Option Addr) (n c : Nat) (zs : List Int) (w : World) (h : Code w A n c zs) :
    Calls Try.prog 13 #[.slice A n c] w (BrEnds w) := by
  have F0 := Full.new w 25 #[.int .i64 0, .slice none 0 0]
  have G0 := World.grownBy_alloc w (.cells #[.int .i64 0, .slice none 0 0] 25) none
  go_enter Try.func13, Try.ntmps13
  go_wp2_with fail
  refine (open_any A n c zs _ (h.grown G0)).mono ?_
  rintro e w1 ⟨g, rfl, hr1, hg1⟩
  have F1 := F0.grown hg1 (by simp)
  have G1 := gr_0 G0 hg1
  have hB := hr1.ge
  simp at hB
  have hs1 := G1.size
  clear hg1
  go_wp2_with fail
  refine (br91_any _ g 90000 _ (hr1.less (by omega))).mono ?_
  rintro e w2 ⟨d, A2, n2, c2, xs, rfl, hO, hl, hsm, hr2, hg2⟩
  have F2 := F1.grown hg2 (by intro e; injection e with e; omega)
  have G2 := gr_new G1 hg2 (by omega)
  have HL := hid hl
  have f0 := F2.free 0
  have f1 := F2.free 1
  have c0 := F2.cellAt 0 rfl
  have c1 := F2.cellAt 1 rfl
  have O3 := ((hO.put F2 (by decide) 0 (.int .i64 d)).put (F2.set 0 _) (by decide) 1 (.slice A2 n2 c2)).base_le hs1
  clear hl hg2
  go_wp2_with fail
  refine bodyPost_ret (v := .agg #[.int .i64 d, .slice A2 n2 c2]) ?_ rfl ?_
  · simp [results, Try.results13, go_sem, c0, c1]
  · exact ⟨d, A2, n2, c2, xs, rfl, IArg.of_own O3 HL.out, fun b hb => (O3.block hb).2, hsm, gr_put (gr_put G2 (by omega) _) (by omega) _⟩

set_option maxHeartbeats 1000000 in
theorem dbw_any (A : Option Addr) (n c : Nat) (zs : List Int) (w : World) (h : Code w A n c zs) :
    Calls Try.prog 16 #[.slice A n c] w (BrEnds w) := by
  have F0 := Full.new w 25 #[.int .i64 0, .slice none 0 0]
  have G0 := World.grownBy_alloc w (.cells #[.int .i64 0, .slice none 0 0] 25) none
  go_enter Try.func16, Try.ntmps16
  go_wp2_with fail
  refine (open_any A n c zs _ (h.grown G0)).mono ?_
  rintro e w1 ⟨g, rfl, hr1, hg1⟩
  have F1 := F0.grown hg1 (by simp)
  have G1 := gr_0 G0 hg1
  have hB := hr1.ge
  simp at hB
  have hs1 := G1.size
  clear hg1
  go_wp2_with fail
  refine (br91_any _ g 90000 _ (hr1.less (by omega))).mono ?_
  rintro e w2 ⟨d, A2, n2, c2, xs, rfl, hO, hl, hsm, hr2, hg2⟩
  have F2 := F1.grown hg2 (by intro e; injection e with e; omega)
  have G2 := gr_new G1 hg2 (by omega)
  have HL := hid hl
  have f0 := F2.free 0
  have f1 := F2.free 1
  have c0 := F2.cellAt 0 rfl
  have c1 := F2.cellAt 1 rfl
  have O3 := ((hO.put F2 (by decide) 0 (.int .i64 d)).put (F2.set 0 _) (by decide) 1 (.slice A2 n2 c2)).base_le hs1
  clear hl hg2
  go_wp2_with fail
  refine bodyPost_ret (v := .agg #[.int .i64 d, .slice A2 n2 c2]) ?_ rfl ?_
  · simp [results, Try.results16, go_sem, c0, c1]
  · exact ⟨d, A2, n2, c2, xs, rfl, IArg.of_own O3 HL.out, fun b hb => (O3.block hb).2, hsm, gr_put (gr_put G2 (by omega) _) (by omega) _⟩

set_option maxHeartbeats 1000000 in
theorem dbu_any (A : Option Addr) (n c : Nat) (zs : List Int) (w : World) (h : Code w A n c zs) :
    Calls Try.prog 20 #[.slice A n c] w (BrEnds w) := by
  have F0 := Full.new w 25 #[.int .i64 0, .slice none 0 0]
  have G0 := World.grownBy_alloc w (.cells #[.int .i64 0, .slice none 0 0] 25) none
  go_enter Try.func20, Try.ntmps20
  go_wp2_with fail
  refine (open_any A n c zs _ (h.grown G0)).mono ?_
  rintro e w1 ⟨g, rfl, hr1, hg1⟩
  have F1 := F0.grown hg1 (by simp)
  have G1 := gr_0 G0 hg1
  have hB := hr1.ge
  simp at hB
  have hs1 := G1.size
  clear hg1
  go_wp2_with fail
  refine (br91_any _ g 90000 _ (hr1.less (by omega))).mono ?_
  rintro e w2 ⟨d, A2, n2, c2, xs, rfl, hO, hl, hsm, hr2, hg2⟩
  have F2 := F1.grown hg2 (by intro e; injection e with e; omega)
  have G2 := gr_new G1 hg2 (by omega)
  have HL := hid hl
  have f0 := F2.free 0
  have f1 := F2.free 1
  have c0 := F2.cellAt 0 rfl
  have c1 := F2.cellAt 1 rfl
  have O3 := ((hO.put F2 (by decide) 0 (.int .i64 d)).put (F2.set 0 _) (by decide) 1 (.slice A2 n2 c2)).base_le hs1
  clear hl hg2
  go_wp2_with fail
  refine bodyPost_ret (v := .agg #[.int .i64 d, .slice A2 n2 c2]) ?_ rfl ?_
  · simp [results, Try.results20, go_sem, c0, c1]
  · exact ⟨d, A2, n2, c2, xs, rfl, IArg.of_own O3 HL.out, fun b hb => (O3.block hb).2, hsm, gr_put (gr_put G2 (by omega) _) (by omega) _⟩

set_option maxHeartbeats 2000000 in
theorem waits_walk (A : Option Addr) (n c : Nat) (zs : List Int) (w : World) (h : Code w A n c zs) :
    Calls Try.prog 4 #[.slice A n c] w fun e w' => e = .returned (.bool true) ∧ w.grownBy w' none := by
  have hc := h.cap
  have hm := h.max
  unfold maxLen at hm
  by_cases h1 : n > 1048576
  · go_enter Try.func4, Try.ntmps4
    go_wp2
    go_ret
    exact ⟨rfl, gr_refl _ _⟩
  go_enter Try.func4, Try.ntmps4
  go_wp2_with fail
  refine (dbw_any A n c zs _ h).mono ?_
  rintro e w1 ⟨d, P, N, C, xs, rfl, hP, hPb, hsm, hg1⟩
  have hd0 := hsm.d0
  have hd1 := hsm.d1
  have hN : N ≤ 101 := by have := hsm.len; have := hP.len; omega
  have hC := hP.cap
  have hCm := hP.max
  unfold maxLen at hCm
  have E1 := Full.new w1 25 #[.int .i64 d, .slice P N C]
  have h1' := hP.alloc (.cells #[.int .i64 d, .slice P N C] 25)
  have G1 := gr_alloc hg1 (.cells #[.int .i64 d, .slice P N C] 25)
  have c0 := E1.cellAt 0 (v := .int .i64 d) rfl
  have c1 := E1.cellAt 1 (v := .slice P N C) rfl
  clear hg1 hP
  obtain ⟨v, hv⟩ : ∃ v, barWait d xs = v := ⟨_, rfl⟩
  have HV := hid hv
  clear hv
  have e1 := wt_is d P N C xs v _ h1' HV.out
  go_wp2_with fail
  refine e1.mono ?_
  rintro e w2 ⟨rfl, hg2⟩
  have h2 := h1'.grown0 hg2
  have E2 := E1.grown hg2 (by simp)
  have G2 := gr_0 G1 hg2
  have e2 := swt_is d P N C xs v _ h2 HV.out (by omega) (by omega)
  clear e1 E1 G1 h1' hg2 c0 c1
  have c0 := E2.cellAt 0 (v := .int .i64 d) rfl
  have c1 := E2.cellAt 1 (v := .slice P N C) rfl
  go_wp2_with fail
  refine e2.mono ?_
  rintro e w3 ⟨rfl, hg3⟩
  have h3 := h2.grown0 hg3
  have E3 := E2.grown hg3 (by simp)
  have G3 := gr_0 G2 hg3
  clear e2 E2 G2 h2 hg3 c0 c1
  obtain ⟨b, hb⟩ : ∃ b, barB d xs = b := ⟨_, rfl⟩
  cases b with
  | false =>
    have hv1 := barWait_no hb
    rw [HV.out] at hv1
    have hvl : v < 0 := by omega
    clear hv1
    go_wp2_with fail
    go_ret
    exact ⟨ret_bool (by simp), G3⟩
  | true =>
    have hw1 := wait_nonneg hb
    have hu := headOr_bound hb
    have hv1 := barWait_yes hb
    rw [HV.out] at hv1
    obtain ⟨u, hu'⟩ : ∃ u, headOr d xs = u := ⟨_, rfl⟩
    rw [hu'] at hu hv1
    rw [HV.out] at hw1
    have hlen := h3.len
    obtain ⟨hu0, hu1, hu2⟩ := hu
    have e3 := fun w h => up_is d P N C xs u w h (by rw [barUp_yes hb]; exact hu')
    have i1 : IntKind.i64.wrap (v + u) = v + u := IntWalk.i64_in _ (by omega)
    have i2 : IntKind.i64.wrap (v + u + (N : Int)) = d := by rw [IntWalk.i64_in _ (by omega)]; omega
    have vn : decide ((0 : Int) ≤ v) = true := by simpa using hw1
    have vl : decide (v < 0) = false := by simp; omega
    have HH := hid h3
    have a0 := E3.cellAt 0 (v := .int .i64 d) rfl
    have a1 := E3.cellAt 1 (v := .slice P N C) rfl
    have k0 := fun d os => cell_regrown a0 d os
    have k1 := fun d os => cell_regrown a1 d os
    clear hu' hv1 hlen a0 a1 h3
    go_wp2_with fail
    refine wp_region_quiet_below (by kernel_rfl) (by kernel_rfl) ?_
    repeat (first | go_big_quiet_step ((((go_at_call 19; refine Calls.regrown_of (v := .int .i64 u) ((e3 _ (HH.out.grown0 (gr_of_below (below_regrown _ _ _) none))).mono ?_); (rintro e w' ⟨he, hg⟩; exact ⟨he, gr_below hg⟩))))) | quiet_step ((((go_at_call 19; refine Calls.regrown_of (v := .int .i64 u) ((e3 _ (HH.out.grown0 (gr_of_below (below_regrown _ _ _) none))).mono ?_); (rintro e w' ⟨he, hg⟩; exact ⟨he, gr_below hg⟩))))))
    refine wpQuiet_nil ?_
    intro _ hw'
    obtain ⟨⟨dq, osq⟩, hw''⟩ := hw'
    subst hw''
    clear k0 k1 i1 i2
    go_wp2_with fail
    go_ret
    exact ⟨ret_bool (by simp), gr_0 G3 (gr_of_below (below_regrown _ _ _) none)⟩

set_option maxHeartbeats 2000000 in
theorem waitsNone_walk (A : Option Addr) (n c : Nat) (zs : List Int) (w : World) (h : Code w A n c zs) :
    Calls Try.prog 5 #[.slice A n c] w fun e w' => e = .returned (.bool true) ∧ w.grownBy w' none := by
  have hc := h.cap
  have hm := h.max
  unfold maxLen at hm
  by_cases h1 : n > 1048576
  · go_enter Try.func5, Try.ntmps5
    go_wp2
    go_ret
    exact ⟨rfl, gr_refl _ _⟩
  go_enter Try.func5, Try.ntmps5
  go_wp2_with fail
  refine (dbw_any A n c zs _ h).mono ?_
  rintro e w1 ⟨d, P, N, C, xs, rfl, hP, hPb, hsm, hg1⟩
  have hd0 := hsm.d0
  have hd1 := hsm.d1
  have hN : N ≤ 101 := by have := hsm.len; have := hP.len; omega
  have hC := hP.cap
  have hCm := hP.max
  unfold maxLen at hCm
  have E1 := Full.new w1 25 #[.int .i64 d, .slice P N C]
  have h1' := hP.alloc (.cells #[.int .i64 d, .slice P N C] 25)
  have G1 := gr_alloc hg1 (.cells #[.int .i64 d, .slice P N C] 25)
  have c0 := E1.cellAt 0 (v := .int .i64 d) rfl
  have c1 := E1.cellAt 1 (v := .slice P N C) rfl
  clear hg1 hP
  obtain ⟨v, hv⟩ : ∃ v, barWait d xs = v := ⟨_, rfl⟩
  have HV := hid hv
  clear hv
  have e1 := wt_is d P N C xs v _ h1' HV.out
  go_wp2_with fail
  refine e1.mono ?_
  rintro e w2 ⟨rfl, hg2⟩
  have h2 := h1'.grown0 hg2
  have E2 := E1.grown hg2 (by simp)
  have G2 := gr_0 G1 hg2
  have e2 := swt_is d P N C xs v _ h2 HV.out (by omega) (by omega)
  clear e1 E1 G1 h1' hg2 c0 c1
  have c0 := E2.cellAt 0 (v := .int .i64 d) rfl
  have c1 := E2.cellAt 1 (v := .slice P N C) rfl
  go_wp2_with fail
  refine e2.mono ?_
  rintro e w3 ⟨rfl, hg3⟩
  have h3 := h2.grown0 hg3
  have E3 := E2.grown hg3 (by simp)
  have G3 := gr_0 G2 hg3
  clear e2 E2 G2 h2 hg3 c0 c1
  obtain ⟨b, hb⟩ : ∃ b, barB d xs = b := ⟨_, rfl⟩
  cases b with
  | false =>
    have hv1 := barWait_no hb
    rw [HV.out] at hv1
    have hvl : v < 0 := by omega
    clear hv1
    go_wp2_with fail
    go_ret
    exact ⟨ret_bool (by simp), G3⟩
  | true =>
    have hw1 := wait_nonneg hb
    rw [HV.out] at hw1
    have hb2 : barB d [] = true := barB_yes (barB_parts hb).1.1 (barB_parts hb).1.2 rfl
    have vl : decide (v < 0) = false := by simp; omega
    have hE : ∀ w : World, IArg w none 0 0 [] := fun w => ⟨.inl rfl, rfl, Nat.le_refl _, by simp [maxLen]⟩
    have e3 := fun w => wt_is d none 0 0 [] 0 w (hE w) (by rw [barWait_yes hb2]; simp [headOr])
    have e4 := fun w => up_is d none 0 0 [] d w (hE w) (by rw [barUp_yes hb2]; rfl)
    have E4 := E3.alloc (.cells #[.int .i64 d, .slice none 0 0] 25)
    have X4 := Full.new w3 25 #[.int .i64 d, .slice none 0 0]
    have G4 := gr_alloc G3 (.cells #[.int .i64 d, .slice none 0 0] 25)
    have k0 := fun q os => cell_regrown (E4.cellAt 0 (v := .int .i64 d) rfl) q os
    have k2 := fun q os => cell_regrown (X4.cellAt 0 (v := .int .i64 d) rfl) q os
    have k3 := fun q os => cell_regrown (X4.cellAt 1 (v := .slice none 0 0) rfl) q os
    have c0 := E3.cellAt 0 (v := .int .i64 d) rfl
    clear hE hb2 h3
    go_wp2_with fail
    clear c0
    refine wp_region_quiet_below (by kernel_rfl) (by kernel_rfl) ?_
    repeat (first | go_big_quiet_step (((first | (go_at_call 17; refine Calls.regrown_of (v := .int .i64 0) ((e3 _).mono ?_); (rintro e w' ⟨he, hg⟩; exact ⟨he, gr_below hg⟩)) | (go_at_call 19; refine Calls.regrown_of (v := .int .i64 d) ((e4 _).mono ?_); (rintro e w' ⟨he, hg⟩; exact ⟨he, gr_below hg⟩))))) | quiet_step (((first | (go_at_call 17; refine Calls.regrown_of (v := .int .i64 0) ((e3 _).mono ?_); (rintro e w' ⟨he, hg⟩; exact ⟨he, gr_below hg⟩)) | (go_at_call 19; refine Calls.regrown_of (v := .int .i64 d) ((e4 _).mono ?_); (rintro e w' ⟨he, hg⟩; exact ⟨he, gr_below hg⟩))))))
    refine wpQuiet_nil ?_
    intro _ hw'
    obtain ⟨⟨dq, osq⟩, hw''⟩ := hw'
    subst hw''
    clear k0 k2 k3
    go_wp2_with fail
    go_ret
    exact ⟨ret_bool (by simp), gr_0 G4 (gr_of_below (below_regrown _ _ _) none)⟩

set_option maxHeartbeats 2000000 in
theorem upTo_walk (A : Option Addr) (n c : Nat) (zs : List Int) (w : World) (h : Code w A n c zs) :
    Calls Try.prog 6 #[.slice A n c] w fun e w' => e = .returned (.bool true) ∧ w.grownBy w' none := by
  have hc := h.cap
  have hm := h.max
  unfold maxLen at hm
  by_cases h1 : n > 1048576
  · go_enter Try.func6, Try.ntmps6
    go_wp2
    go_ret
    exact ⟨rfl, gr_refl _ _⟩
  go_enter Try.func6, Try.ntmps6
  go_wp2_with fail
  refine (dbu_any A n c zs _ h).mono ?_
  rintro e w1 ⟨d, P, N, C, xs, rfl, hP, hPb, hsm, hg1⟩
  have hd0 := hsm.d0
  have hd1 := hsm.d1
  have hN : N ≤ 101 := by have := hsm.len; have := hP.len; omega
  have hC := hP.cap
  have hCm := hP.max
  unfold maxLen at hCm
  have E1 := Full.new w1 25 #[.int .i64 d, .slice P N C]
  have h1' := hP.alloc (.cells #[.int .i64 d, .slice P N C] 25)
  have G1 := gr_alloc hg1 (.cells #[.int .i64 d, .slice P N C] 25)
  have c0 := E1.cellAt 0 (v := .int .i64 d) rfl
  have c1 := E1.cellAt 1 (v := .slice P N C) rfl
  clear hg1 hP
  obtain ⟨v, hv⟩ : ∃ v, barUp d xs = v := ⟨_, rfl⟩
  have HV := hid hv
  clear hv
  have e1 := up_is d P N C xs v _ h1' HV.out
  go_wp2_with fail
  refine e1.mono ?_
  rintro e w2 ⟨rfl, hg2⟩
  have h2 := h1'.grown0 hg2
  have E2 := E1.grown hg2 (by simp)
  have G2 := gr_0 G1 hg2
  have e2 := sup_is d P N C xs v _ h2 HV.out (by omega) (by omega)
  clear e1 E1 G1 h1' hg2 c0 c1
  have c0 := E2.cellAt 0 (v := .int .i64 d) rfl
  have c1 := E2.cellAt 1 (v := .slice P N C) rfl
  go_wp2_with fail
  refine e2.mono ?_
  rintro e w3 ⟨rfl, hg3⟩
  have h3 := h2.grown0 hg3
  have E3 := E2.grown hg3 (by simp)
  have G3 := gr_0 G2 hg3
  clear e2 E2 G2 h2 hg3 c0 c1
  obtain ⟨b, hb⟩ : ∃ b, barB d xs = b := ⟨_, rfl⟩
  cases b with
  | false =>
    have hv1 := barUp_no hb
    rw [HV.out] at hv1
    have hvl : v < 0 := by omega
    clear hv1
    go_wp2_with fail
    go_ret
    exact ⟨ret_bool (by simp), G3⟩
  | true =>
    have hu := headOr_bound hb
    have hv1 := barUp_yes hb
    rw [HV.out] at hv1
    rw [← hv1] at hu
    obtain ⟨hu0, hu1, hu2⟩ := hu
    have vl : decide (v < 0) = false := by simp; omega
    have HMin := hid (up_least hb)
    have HMem := hid (show v = d ∨ v ∈ xs by rw [hv1]; exact headOr_mem d xs)
    rw [← hv1] at HMin
    have HE := hid E3
    have HI := hid h3
    clear hv1 h3 E3
    go_wp2_with fail
    go_loopw [6] (fun i wr => ∃ k : Nat, i = .int .i64 k ∧ k ≤ N ∧ IArg wr P N C xs ∧ Full wr w1.heap.size 25 #[.int .i64 d, .slice P N C] ∧ w.grownBy wr none) (fun i _ => N - (intOf i).toNat)
    case atStart => exact ⟨0, rfl, by omega, HI.out, HE.out, G3⟩
    case round =>
      clear HI HE G3
      obtain ⟨k, rfl, hkN, hI, hE, hG⟩ := hrel
      have c0 := hE.cellAt 0 (v := .int .i64 d) rfl
      have c1 := hE.cellAt 1 (v := .slice P N C) rfl
      by_cases hlt : k < N
      · have hkl : k < xs.length := by rw [hI.len]; exact hlt
        obtain ⟨g, o, rfl, _, hcell⟩ := hI.li.open_ (by rw [ints_len]; omega)
        have cx := intAt hcell hkl
        have hle := HMin.out _ (List.getElem_mem hkl)
        generalize xs[k] = x at cx hle
        have b1 : (0 : Int) ≤ (k : Int) := by omega
        have b2 : (k : Int) < (N : Int) := by omega
        have hx : decide (x < v) = false := by simp; omega
        clear hcell
        go_wp2_with fail
        go_wp2_with fail
        go_roundw
        case rel => exact ⟨k + 1, by go_num, by omega, hI, hE, hG⟩
        case measure => simp [intOf]; omega
      · by_cases q : v = d
        · have q' : (v == d) = true := by simpa using q
          have q2 : (d == v) = true := by simpa using q.symm
          clear q
          go_wp2_with fail
          go_ret
          exact ⟨ret_bool (by simp), hG⟩
        · have q' : (v == d) = false := by simpa using q
          have hm : v ∈ xs := by rcases HMem.out with e | e; exact absurd e q; exact e
          have e3 := hi_is P N C xs v true wr hI.li hI.len hI.cap hI.max (decide_eq_true hm)
          clear q hm
          go_wp2_with fail
          refine e3.mono ?_
          rintro e w_ ⟨rfl, rfl⟩
          go_wp2_with fail
          go_ret
          exact ⟨rfl, hG⟩
end Go.Proofs.Ytfcammfdengdbaa
