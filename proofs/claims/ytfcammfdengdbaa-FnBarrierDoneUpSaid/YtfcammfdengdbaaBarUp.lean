/- BarrierUpTo, BarrierWaits in impl and in spec; sameBarrier. -/
import Derived.Test.YtfcammfdengdbaaBar
import Derived.Test.YtfcammfdengdbaaHeapAll
import Derived.Test.YtfcammfdengdbaaSame
import Derived.Lib.QuietBelow
namespace Go.Proofs.Ytfcammfdengdbaa
open Go.RowKit

theorem asc_len {lo hi : Int} {xs : List Int} (h : asc lo hi xs = true) (hl : lo ≤ hi) : (xs.length : Int) ≤ hi - lo := by
  induction xs generalizing lo with
  | nil => simp; omega
  | cons x xs ih =>
    obtain ⟨h1, h2, h3⟩ := asc_head h
    have := ih h3 h2
    rw [List.length_cons]
    omega
theorem barB_len {d : Int} {xs : List Int} (h : barB d xs = true) : xs.length ≤ 100 := by
  obtain ⟨h1, h2⟩ := barB_parts h
  have := asc_len h2 (by omega)
  omega
def headOr (d : Int) : List Int → Int
  | [] => d
  | x :: _ => x
def barUp (d : Int) (xs : List Int) : Int := if barB d xs = true then headOr d xs else -1
def barWait (d : Int) (xs : List Int) : Int := if barB d xs = true then d - headOr d xs - xs.length else -1
theorem barUp_yes {d : Int} {xs : List Int} (h : barB d xs = true) : barUp d xs = headOr d xs := by simp [barUp, h]
theorem barUp_no {d : Int} {xs : List Int} (h : barB d xs = false) : barUp d xs = -1 := by simp [barUp, h]
theorem barWait_yes {d : Int} {xs : List Int} (h : barB d xs = true) : barWait d xs = d - headOr d xs - xs.length := by simp [barWait, h]
theorem barWait_no {d : Int} {xs : List Int} (h : barB d xs = false) : barWait d xs = -1 := by simp [barWait, h]
theorem headOr_bound {d : Int} {xs : List Int} (h : barB d xs = true) : 0 ≤ headOr d xs ∧ headOr d xs ≤ d ∧ headOr d xs ≤ 100 := by
  obtain ⟨h1, h2⟩ := barB_parts h
  cases xs with
  | nil => exact ⟨h1.1, Int.le_refl _, h1.2⟩
  | cons x xs =>
    obtain ⟨a, b, _⟩ := asc_head h2
    simp only [headOr]
    omega
/-- The least of a heap of an ascending list is its first. -/
theorem heap_first {d : Int} {xs ys : List Int} (h : barB d xs = true) (hp : ys.Perm xs) (hh : HeapFrom 0 xs.length ys) (hn : 0 < xs.length) : ys.getD 0 0 = headOr d xs := by
  obtain ⟨_, h2⟩ := barB_parts h
  cases xs with
  | nil => simp at hn
  | cons x xs =>
    have hl := hp.length_eq
    obtain ⟨_, _, h3⟩ := asc_head h2
    rw [← hl] at hh
    have hmin := heap_head hh
    have hx : x ∈ ys := hp.symm.subset (by simp)
    have h1 := hmin x hx
    have h4 : ys.getD 0 0 ∈ x :: xs := hp.subset (getD_mem (by omega))
    simp only [headOr]
    rcases List.mem_cons.1 h4 with e | e
    · exact e
    · have := asc_mem h3 _ e
      omega

set_option maxHeartbeats 1000000 in
theorem up_is (d : Int) (A : Option Addr) (n c : Nat) (xs : List Int) (v : Int) (w : World) (h : IArg w A n c xs) (hv : barUp d xs = v) :
    Calls Try.prog 19 #[.agg #[.int .i64 d, .slice A n c]] w fun e w' => e = .returned (.int .i64 v) ∧ w.grownBy w' none := by
  obtain ⟨b, hb⟩ : ∃ b, barB d xs = b := ⟨_, rfl⟩
  have G0 := World.grownBy_alloc w (.cells #[.int .i64 d, .slice A n c] 25) none
  have E0 := Full.new w 25 #[.int .i64 d, .slice A n c]
  have h0 := h.alloc (.cells #[.int .i64 d, .slice A n c] 25)
  have e1 := bv_is d A n c xs b _ h0 hb
  have HV := hid hv
  have HB := hid hb
  have c0 := E0.cellAt 0 (v := .int .i64 d) rfl
  have c1 := E0.cellAt 1 (v := .slice A n c) rfl
  clear hv hb h
  go_enter Try.func19, Try.ntmps19
  go_wp2_with fail
  refine e1.mono ?_
  rintro e w1 ⟨rfl, hg1⟩
  have h1 := h0.grown0 hg1
  have E1 := E0.grown hg1 (by simp)
  have G1 := gr_0 G0 hg1
  clear e1 h0 E0 G0 hg1 c0 c1
  cases b with
  | false =>
    have HF := hid (barUp_no HB.out)
    go_wp2_with fail
    go_ret
    exact ⟨ret_int (by rw [← HV.out, HF.out]), G1⟩
  | true =>
    have hlen := barB_len HB.out
    have e2 := heapOf_any A n c xs w1 h1.li h1.len h1.cap h1.max (by have := h1.len; omega)
    have c1 := E1.cellAt 1 (v := .slice A n c) rfl
    have HN := hid h1.len
    clear h1 hlen
    go_wp2_with fail
    refine e2.mono ?_
    rintro e w2 ⟨hbk, A2, c2, ys, rfl, hH, hp, hf, hg2⟩
    have E2 := E1.grown hg2 (by simp)
    have G2 := gr_0 G1 hg2
    have d0 := hH.full.cellAt 0 (v := .slice A2 n c2) rfl
    have e3 := hlen_any A2 n c2 w2
    clear e2 E1 G1 hg2 c1
    go_wp2_with fail
    refine e3.mono ?_
    rintro e w_ ⟨rfl, rfl⟩
    clear e3
    rcases (by omega : n = 0 ∨ 0 < n) with q | q
    · subst q
      have hx0 : xs = [] := List.eq_nil_of_length_eq_zero HN.out
      have HF := hid (show barUp d xs = d by rw [barUp_yes HB.out, hx0]; rfl)
      have c0 := E2.cellAt 0 (v := .int .i64 d) rfl
      clear hx0 hH hp hf d0
      go_wp2_with fail
      go_ret
      exact ⟨ret_int (by rw [← HV.out, HF.out]), G2⟩
    · obtain ⟨gA, cur, hAe, _, _, hcell⟩ := hH.own.open_ q
      have ci := getAt hcell (k := 0) (by rw [hH.len]; exact q)
      have HF := hid (show ys.getD 0 0 = barUp d xs by rw [barUp_yes HB.out]; exact heap_first HB.out hp (by rw [HN.out]; exact hf) (by rw [HN.out]; exact q))
      rw [HF.out] at ci
      have q' : ((n : Int) == 0) = false := by simp; omega
      have q2 : (0 : Int) < (n : Int) := by omega
      subst hAe
      clear hcell hH hp hf
      go_wp2_with fail
      go_ret
      exact ⟨ret_int HV.out, G2⟩

set_option maxHeartbeats 400000 in
theorem l12_is (d : Int) (A : Option Addr) (n c : Nat) (xs : List Int) (w : World) (h : IArg w A n c xs) :
    Calls Try.prog 34 #[.agg #[.int .i64 d, .slice A n c]] w fun e w' => e = .returned (.int .i64 (headOr d xs)) ∧ w.grownBy w' none := by
  obtain ⟨hli, hn, hc, hm⟩ := h
  unfold maxLen at hm
  have hL := hli.alloc (.cells #[.int .i64 d, .slice A n c] 25)
  have G0 := World.grownBy_alloc w (.cells #[.int .i64 d, .slice A n c] 25) none
  cases xs with
  | nil =>
    obtain rfl : n = 0 := by simpa using hn.symm
    clear hn hli hL
    go_enter Try.func34, Try.ntmps34
    go_wp2_with fail
    go_ret
    exact ⟨rfl, G0⟩
  | cons x xs =>
    have q : 0 < n := by simp at hn; omega
    obtain ⟨g, o, rfl, _, hcell⟩ := hL.open_ (by simp [ints])
    have cx := hcell 0 _ rfl
    rw [Nat.add_zero] at cx
    have q1 : decide (0 < n) = true := by simpa using q
    have q2 : (0 : Int) < (n : Int) := by omega
    clear hn hli hL hcell
    go_enter Try.func34, Try.ntmps34
    go_wp2_with fail
    go_ret
    exact ⟨rfl, G0⟩

set_option maxHeartbeats 400000 in
theorem sup_is (d : Int) (A : Option Addr) (n c : Nat) (xs : List Int) (v : Int) (w : World) (h : IArg w A n c xs) (hv : barUp d xs = v) (hd0 : -1000000 ≤ d) (hd1 : d ≤ 1000000) :
    Calls Try.prog 21 #[.agg #[.int .i64 d, .slice A n c]] w fun e w' => e = .returned (.int .i64 v) ∧ w.grownBy w' none := by
  obtain ⟨b, hb⟩ : ∃ b, barB d xs = b := ⟨_, rfl⟩
  have G0 := World.grownBy_alloc w (.cells #[.int .i64 d, .slice A n c] 25) none
  have E0 := Full.new w 25 #[.int .i64 d, .slice A n c]
  have h0 := h.alloc (.cells #[.int .i64 d, .slice A n c] 25)
  have e1 := sbv_is d A n c xs b _ h0 hb hd0 hd1
  have HV := hid hv
  have HB := hid hb
  have c0 := E0.cellAt 0 (v := .int .i64 d) rfl
  have c1 := E0.cellAt 1 (v := .slice A n c) rfl
  clear hv hb h
  go_enter Try.func21, Try.ntmps21
  go_wp2_with fail
  refine e1.mono ?_
  rintro e w1 ⟨rfl, hg1⟩
  have h1 := h0.grown0 hg1
  have E1 := E0.grown hg1 (by simp)
  have G1 := gr_0 G0 hg1
  clear e1 h0 E0 G0 hg1 c0 c1
  cases b with
  | false =>
    have HF := hid (barUp_no HB.out)
    go_wp2_with fail
    go_ret
    exact ⟨ret_int (by rw [← HV.out, HF.out]), G1⟩
  | true =>
    have HF := hid (barUp_yes HB.out)
    have e2 := l12_is d A n c xs w1 h1
    have c0 := E1.cellAt 0 (v := .int .i64 d) rfl
    have c1 := E1.cellAt 1 (v := .slice A n c) rfl
    go_wp2_with fail
    refine e2.mono ?_
    rintro e w2 ⟨rfl, hg2⟩
    go_wp2_with fail
    go_ret
    exact ⟨ret_int (by rw [← HV.out, HF.out]), gr_0 G1 hg2⟩

set_option maxHeartbeats 1000000 in
theorem wt_is (d : Int) (A : Option Addr) (n c : Nat) (xs : List Int) (v : Int) (w : World) (h : IArg w A n c xs) (hv : barWait d xs = v) :
    Calls Try.prog 17 #[.agg #[.int .i64 d, .slice A n c]] w fun e w' => e = .returned (.int .i64 v) ∧ w.grownBy w' none := by
  obtain ⟨b, hb⟩ : ∃ b, barB d xs = b := ⟨_, rfl⟩
  have G0 := World.grownBy_alloc w (.cells #[.int .i64 d, .slice A n c] 25) none
  have E0 := Full.new w 25 #[.int .i64 d, .slice A n c]
  have h0 := h.alloc (.cells #[.int .i64 d, .slice A n c] 25)
  have e1 := bv_is d A n c xs b _ h0 hb
  have HV := hid hv
  have HB := hid hb
  have c0 := E0.cellAt 0 (v := .int .i64 d) rfl
  have c1 := E0.cellAt 1 (v := .slice A n c) rfl
  clear hv hb h
  go_enter Try.func17, Try.ntmps17
  go_wp2_with fail
  refine e1.mono ?_
  rintro e w1 ⟨rfl, hg1⟩
  have h1 := h0.grown0 hg1
  have E1 := E0.grown hg1 (by simp)
  have G1 := gr_0 G0 hg1
  clear e1 h0 E0 G0 hg1 c0 c1
  cases b with
  | false =>
    have HF := hid (barWait_no HB.out)
    go_wp2_with fail
    go_ret
    exact ⟨ret_int (by rw [← HV.out, HF.out]), G1⟩
  | true =>
    obtain ⟨u, hu⟩ : ∃ u, headOr d xs = u := ⟨_, rfl⟩
    have hub := headOr_bound HB.out
    have hd := (barB_parts HB.out).1
    have hl := barB_len HB.out
    have hn := h1.len
    have HF := hid (show barWait d xs = d - u - n by rw [barWait_yes HB.out, hu, hn])
    have e2 := fun w h => up_is d A n c xs u w h (by rw [barUp_yes HB.out]; exact hu)
    rw [hu] at hub
    have hn100 : n ≤ 100 := by omega
    have a0 := E1.cellAt 0 (v := .int .i64 d) rfl
    have a1 := E1.cellAt 1 (v := .slice A n c) rfl
    have i1 : IntKind.i64.wrap (d - u) = d - u := IntWalk.i64_in _ (by omega)
    have i2 : IntKind.i64.wrap (d - u - (n : Int)) = d - u - n := IntWalk.i64_in _ (by omega)
    obtain ⟨hub1, hub2, hub3⟩ := hub
    have k0 := fun d os => cell_regrown a0 d os
    have k1 := fun d os => cell_regrown a1 d os
    have HH := hid h1
    clear hu hn hl h1 a0 a1
    go_wp2_with fail
    refine wp_region_quiet_below (by kernel_rfl) (by kernel_rfl) ?_
    repeat (first | go_big_quiet_step (((go_at_call 19; refine Calls.regrown_of (v := .int .i64 u) ((e2 _ (HH.out.grown0 (gr_of_below (below_regrown _ _ _) none))).mono ?_); (rintro e w' ⟨he, hg⟩; exact ⟨he, gr_below hg⟩)))) | quiet_step (((go_at_call 19; refine Calls.regrown_of (v := .int .i64 u) ((e2 _ (HH.out.grown0 (gr_of_below (below_regrown _ _ _) none))).mono ?_); (rintro e w' ⟨he, hg⟩; exact ⟨he, gr_below hg⟩)))))
    refine wpQuiet_nil ?_
    intro _ hw'
    obtain ⟨⟨dq, osq⟩, hw''⟩ := hw'
    subst hw''
    clear k0 k1
    go_wp2_with fail
    go_ret
    exact ⟨ret_int (by rw [← HV.out, HF.out]), gr_0 G1 (gr_of_below (below_regrown _ _ _) none)⟩

set_option maxHeartbeats 1000000 in
theorem swt_is (d : Int) (A : Option Addr) (n c : Nat) (xs : List Int) (v : Int) (w : World) (h : IArg w A n c xs) (hv : barWait d xs = v) (hd0 : -1000000 ≤ d) (hd1 : d ≤ 1000000) :
    Calls Try.prog 18 #[.agg #[.int .i64 d, .slice A n c]] w fun e w' => e = .returned (.int .i64 v) ∧ w.grownBy w' none := by
  obtain ⟨b, hb⟩ : ∃ b, barB d xs = b := ⟨_, rfl⟩
  have G0 := World.grownBy_alloc w (.cells #[.int .i64 d, .slice A n c] 25) none
  have E0 := Full.new w 25 #[.int .i64 d, .slice A n c]
  have h0 := h.alloc (.cells #[.int .i64 d, .slice A n c] 25)
  have e1 := sbv_is d A n c xs b _ h0 hb hd0 hd1
  have HV := hid hv
  have HB := hid hb
  have c0 := E0.cellAt 0 (v := .int .i64 d) rfl
  have c1 := E0.cellAt 1 (v := .slice A n c) rfl
  clear hv hb h
  go_enter Try.func18, Try.ntmps18
  go_wp2_with fail
  refine e1.mono ?_
  rintro e w1 ⟨rfl, hg1⟩
  have h1 := h0.grown0 hg1
  have E1 := E0.grown hg1 (by simp)
  have G1 := gr_0 G0 hg1
  clear e1 h0 E0 G0 hg1 c0 c1
  cases b with
  | false =>
    have HF := hid (barWait_no HB.out)
    go_wp2_with fail
    go_ret
    exact ⟨ret_int (by rw [← HV.out, HF.out]), G1⟩
  | true =>
    obtain ⟨u, hu⟩ : ∃ u, headOr d xs = u := ⟨_, rfl⟩
    have hub := headOr_bound HB.out
    have hd := (barB_parts HB.out).1
    have hl := barB_len HB.out
    have hn := h1.len
    have HF := hid (show barWait d xs = d - n - u by rw [barWait_yes HB.out, hu, hn]; omega)
    have e2 := fun w h => l12_is d A n c xs w h
    rw [hu] at hub e2
    have hn100 : n ≤ 100 := by omega
    have a0 := E1.cellAt 0 (v := .int .i64 d) rfl
    have a1 := E1.cellAt 1 (v := .slice A n c) rfl
    have i1 : IntKind.i64.wrap (d - (n : Int)) = d - n := IntWalk.i64_in _ (by omega)
    have i2 : IntKind.i64.wrap (d - (n : Int) - u) = d - n - u := IntWalk.i64_in _ (by omega)
    obtain ⟨hub1, hub2, hub3⟩ := hub
    have k0 := fun d os => cell_regrown a0 d os
    have k1 := fun d os => cell_regrown a1 d os
    have HH := hid h1
    clear hu hn hl h1 a0 a1
    go_wp2_with fail
    refine wp_region_quiet_below (by kernel_rfl) (by kernel_rfl) ?_
    repeat (first | go_big_quiet_step (((go_at_call 34; refine Calls.regrown_of (v := .int .i64 u) ((e2 _ (HH.out.grown0 (gr_of_below (below_regrown _ _ _) none))).mono ?_); (rintro e w' ⟨he, hg⟩; exact ⟨he, gr_below hg⟩)))) | quiet_step (((go_at_call 34; refine Calls.regrown_of (v := .int .i64 u) ((e2 _ (HH.out.grown0 (gr_of_below (below_regrown _ _ _) none))).mono ?_); (rintro e w' ⟨he, hg⟩; exact ⟨he, gr_below hg⟩)))))
    refine wpQuiet_nil ?_
    intro _ hw'
    obtain ⟨⟨dq, osq⟩, hw''⟩ := hw'
    subst hw''
    clear k0 k1
    go_wp2_with fail
    go_ret
    exact ⟨ret_int (by rw [← HV.out, HF.out]), gr_0 G1 (gr_of_below (below_regrown _ _ _) none)⟩

set_option maxHeartbeats 400000 in
theorem sb_is (d e : Int) (A B : Option Addr) (n m cA cB : Nat) (xs ys : List Int) (b : Bool) (w : World) (hA : IArg w A n cA xs) (hB : IArg w B m cB ys) (hb : decide (d = e ∧ xs = ys) = b) :
    Calls Try.prog 26 #[.agg #[.int .i64 d, .slice A n cA], .agg #[.int .i64 e, .slice B m cB]] w fun e w' => e = .returned (.bool b) ∧ w.grownBy w' none := by
  have G0 := gr_alloc (gr_alloc (gr_refl w none) (.cells #[.int .i64 d, .slice A n cA] 25)) (.cells #[.int .i64 e, .slice B m cB] 25)
  obtain ⟨b2, hb2⟩ : ∃ b2, decide (xs = ys) = b2 := ⟨_, rfl⟩
  have hA' := (hA.alloc (.cells #[.int .i64 d, .slice A n cA] 25)).alloc (.cells #[.int .i64 e, .slice B m cB] 25)
  have hB' := (hB.alloc (.cells #[.int .i64 d, .slice A n cA] 25)).alloc (.cells #[.int .i64 e, .slice B m cB] 25)
  have e1 := si_is A B n m cA cB xs ys b2 _ hA'.li hB'.li hA'.len hB'.len hA'.cap hA'.max hB'.cap hB'.max hb2
  have HB := hid hb
  have HB2 := hid hb2
  clear hb hb2 hA hB hA' hB'
  by_cases q : d = e
  · subst q
    have HF := hid (show b = b2 by rw [← HB.out, ← HB2.out]; simp)
    go_enter Try.func26, Try.ntmps26
    go_wp2_with fail
    refine e1.mono ?_
    rintro e w1 ⟨rfl, hg⟩
    have G1 := gr_0 G0 hg
    clear e1
    go_wp2_with fail
    go_ret
    exact ⟨ret_bool HF.out.symm, G1⟩
  · have q' : (d == e) = false := by simpa using q
    have HF := hid (show b = false by rw [← HB.out]; exact decide_eq_false (fun e => q e.1))
    clear q e1
    go_enter Try.func26, Try.ntmps26
    go_wp2_with fail
    go_ret
    exact ⟨ret_bool HF.out.symm, G0⟩
end Go.Proofs.Ytfcammfdengdbaa
