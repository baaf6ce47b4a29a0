/- The walk of FnHasDone. -/
import Derived.Test.YtjhkmgoephmbpaaHasFn
import Derived.Lib.QuietBelow
import Derived.BigQuiet
namespace Go.Proofs.Ytjhkmgoephmbpaa
open Go.RowKit

theorem chB_d {d : Int} {xs : List Int} (h : ckB d xs = true) : chB d xs d = false := by
  have hn : d ∉ xs := fun hm => by have := (asc_mem (ckB_parts h).2.2 d hm).1; omega
  have : hasB d xs d = false := by rw [hasB_out hn]; simp
  simp only [chB, this, Bool.and_false]
theorem chB_low {d x : Int} {xs : List Int} (h : ckB d xs = true) (h0 : 0 ≤ x) (h1 : x < d) : chB d xs x = true := by
  have hd := (ckB_parts h).1
  rw [chB_has h (inR_true h0 (by omega))]
  simp [hasB, h1]

set_option maxHeartbeats 1000000 in
theorem hasDone_walk (A : Option Addr) (n c : Nat) (zs : List Int) (A2 : Option Addr) (n2 c2 : Nat) (zs2 : List Int) (w : World) (h : Code w A n c zs) (h2 : Code w A2 n2 c2 zs2) :
    Calls Try.prog 4 #[.slice A n c, .slice A2 n2 c2] w fun e w' => e = .returned (.bool true) ∧ w.grownBy w' none := by
  have hc := h.cap
  have hm := h.max
  have hc2 := h2.cap
  have hm2 := h2.max
  unfold maxLen at hm hm2
  by_cases h1 : n > 1048576
  · go_enter Try.func4, Try.ntmps4
    go_wp2
    go_ret
    exact ⟨rfl, gr_refl _ _⟩
  by_cases h3 : n2 > 1048576
  · go_enter Try.func4, Try.ntmps4
    go_wp2
    go_ret
    exact ⟨rfl, gr_refl _ _⟩
  go_enter Try.func4, Try.ntmps4
  go_wp2_with fail
  refine (dch_any A n c zs _ h).mono ?_
  rintro e w1 ⟨d, B, N, C, xs, x, rfl, hO, hl, hsm, hx0, hx1, hg1⟩
  have hC := hO.cap
  have hCm := hO.max
  have hd0 := hsm.d0
  have hd1 := hsm.d1
  have hN := hsm.len
  rw [hl] at hN
  obtain ⟨b, hb⟩ : ∃ b, chB d xs x = b := ⟨_, rfl⟩
  obtain ⟨bv, hbv⟩ : ∃ b, ckB d xs = b := ⟨_, rfl⟩
  have HB := hid hb
  have HV := hid hbv
  have e1 := fun w hL => ch_is d B N C xs x b w hL hl hC hCm hb
  have e2 := fun w hL => sch_is d B N C xs x b w hL hl hC hCm (by omega) (by omega) hb
  have e3 := fun w hL => sckv_is d B N C xs bv w hL hl hC hCm (by omega) (by omega) hbv
  have e4 := fun w hL q => ch_is d B N C xs d false w hL hl hC hCm q
  have e5 := fun (r : Int) w hL q => ch_is d B N C xs r true w hL hl hC hCm q
  have F1 := Full.new w1 25 #[.int .i64 d, .slice B N C]
  have hL1 := hO.lies.alloc (.cells #[.int .i64 d, .slice B N C] 25)
  clear hl hb hbv hO
  unfold maxLen at hCm
  go_wp2_with fail
  refine (e1 _ hL1).mono ?_
  rintro e w2 ⟨rfl, hg2⟩
  have F2 := F1.grown hg2 (by simp)
  have hL2 := hL1.grown0 hg2
  have G2 := gr_0 (gr_alloc hg1 _) hg2
  have c0 := F2.cellAt 0 rfl
  have c1 := F2.cellAt 1 rfl
  clear e1
  go_wp2_with fail
  refine (e2 _ hL2).mono ?_
  rintro e w3 ⟨rfl, hg3⟩
  have F3 := F2.grown hg3 (by simp)
  have hL3 := hL2.grown0 hg3
  have G3 := gr_0 G2 hg3
  have c0 := F3.cellAt 0 rfl
  have c1 := F3.cellAt 1 rfl
  clear e2
  go_wp2_with fail
  refine (e3 _ hL3).mono ?_
  rintro e w4 ⟨rfl, hg4⟩
  have F4 := F3.grown hg4 (by simp)
  have hL4 := hL3.grown0 hg4
  have G4 := gr_0 G3 hg4
  have c0 := F4.cellAt 0 rfl
  have c1 := F4.cellAt 1 rfl
  clear e3 hg1 hg2 hg3 hg4 F1 F2 F3 hL1 hL2 hL3 G2 G3
  cases bv with
  | false =>
    go_wp2_with fail
    go_ret
    exact ⟨rfl, G4⟩
  | true =>
    have e6 := fun w hL => e4 w hL (chB_d HV.out)
    clear e4
    have hxd : b = true → (x == d) = false := by
      intro hb
      subst hb
      have := HB.out
      rcases (by omega : x = d ∨ x ≠ d) with e | e
      · rw [e, chB_d HV.out] at this
        cases this
      · simp [e]
    have k0 := fun d os => cell_regrown c0 d os
    have k1 := fun d os => cell_regrown c1 d os
    rcases (by omega : d = 0 ∨ 1 ≤ d) with hd | hd
    · subst hd
      clear e5
      cases b with
      | false =>
        clear hxd
        go_wp2_with fail
        refine wp_region_quiet_below (by kernel_rfl) (by kernel_rfl) ?_
        repeat (first | go_big_quiet_step ((first | (go_at_call_of 16 (Value.int IntKind.i64 0); refine Calls.regrown_of (v := .bool false) ((e6 _ ?_).mono ?_); exact hL4.grown0 (gr_of_below (below_regrown _ _ _) none); (rintro e w' ⟨he, hg⟩; exact ⟨he, gr_below hg⟩)))) | quiet_step ((first | (go_at_call_of 16 (Value.int IntKind.i64 0); refine Calls.regrown_of (v := .bool false) ((e6 _ ?_).mono ?_); exact hL4.grown0 (gr_of_below (below_regrown _ _ _) none); (rintro e w' ⟨he, hg⟩; exact ⟨he, gr_below hg⟩)))))
        refine wpQuiet_nil ?_
        intro _ hw'
        obtain ⟨⟨dq, osq⟩, hw''⟩ := hw'
        subst hw''
        go_wp2_with fail
        go_ret
        exact ⟨ret_bool (by first | (simp [*]; done) | (simpa using hx)), gr_0 G4 (gr_of_below (below_regrown _ _ _) none)⟩
      | true =>
        have hx := hxd rfl
        clear hxd
        go_wp2_with fail
        refine wp_region_quiet_below (by kernel_rfl) (by kernel_rfl) ?_
        repeat (first | go_big_quiet_step ((first | (go_at_call_of 16 (Value.int IntKind.i64 0); refine Calls.regrown_of (v := .bool false) ((e6 _ ?_).mono ?_); exact hL4.grown0 (gr_of_below (below_regrown _ _ _) none); (rintro e w' ⟨he, hg⟩; exact ⟨he, gr_below hg⟩)))) | quiet_step ((first | (go_at_call_of 16 (Value.int IntKind.i64 0); refine Calls.regrown_of (v := .bool false) ((e6 _ ?_).mono ?_); exact hL4.grown0 (gr_of_below (below_regrown _ _ _) none); (rintro e w' ⟨he, hg⟩; exact ⟨he, gr_below hg⟩)))))
        refine wpQuiet_nil ?_
        intro _ hw'
        obtain ⟨⟨dq, osq⟩, hw''⟩ := hw'
        subst hw''
        go_wp2_with fail
        go_ret
        exact ⟨ret_bool (by first | (simp [*]; done) | (simpa using hx)), gr_0 G4 (gr_of_below (below_regrown _ _ _) none)⟩
    · have hz : (d == 0) = false := by simp; omega
      have hz' : ¬ d = 0 := by omega
      obtain ⟨r, hr⟩ : ∃ r : Int, (n2 : Int).tmod d = r := ⟨_, rfl⟩
      have hr0 : (n2 : Int) % d = r := by rw [← hr, Int.tmod_eq_emod_of_nonneg (by omega)]
      have hrl : 0 ≤ r ∧ r < d := by rw [← hr0]; exact ⟨Int.emod_nonneg _ (by omega), Int.emod_lt_of_pos _ (by omega)⟩
      have hrw : IntKind.i64.wrap r = r := IntWalk.i64_in _ (by omega)
      have e7 := fun w hL => e5 r w hL (chB_low HV.out hrl.1 hrl.2)
      clear e5 hr0 hrl hz'
      cases b with
      | false =>
        clear hxd
        go_wp2_with fail
        refine wp_region_quiet_below (by kernel_rfl) (by kernel_rfl) ?_
        repeat (first | go_big_quiet_step ((first | (go_at_call_of 16 (Value.int IntKind.i64 r); refine Calls.regrown_of (v := .bool true) ((e7 _ ?_).mono ?_); exact hL4.grown0 (gr_of_below (below_regrown _ _ _) none); (rintro e w' ⟨he, hg⟩; exact ⟨he, gr_below hg⟩)) | (go_at_call 16; refine Calls.regrown_of (v := .bool false) ((e6 _ ?_).mono ?_); exact hL4.grown0 (gr_of_below (below_regrown _ _ _) none); (rintro e w' ⟨he, hg⟩; exact ⟨he, gr_below hg⟩)))) | quiet_step ((first | (go_at_call_of 16 (Value.int IntKind.i64 r); refine Calls.regrown_of (v := .bool true) ((e7 _ ?_).mono ?_); exact hL4.grown0 (gr_of_below (below_regrown _ _ _) none); (rintro e w' ⟨he, hg⟩; exact ⟨he, gr_below hg⟩)) | (go_at_call 16; refine Calls.regrown_of (v := .bool false) ((e6 _ ?_).mono ?_); exact hL4.grown0 (gr_of_below (below_regrown _ _ _) none); (rintro e w' ⟨he, hg⟩; exact ⟨he, gr_below hg⟩)))))
        refine wpQuiet_nil ?_
        intro _ hw'
        obtain ⟨⟨dq, osq⟩, hw''⟩ := hw'
        subst hw''
        go_wp2_with fail
        go_ret
        exact ⟨ret_bool (by first | (simp [*]; done) | (simpa using hx)), gr_0 G4 (gr_of_below (below_regrown _ _ _) none)⟩
      | true =>
        have hx := hxd rfl
        clear hxd
        go_wp2_with fail
        refine wp_region_quiet_below (by kernel_rfl) (by kernel_rfl) ?_
        repeat (first | go_big_quiet_step ((first | (go_at_call_of 16 (Value.int IntKind.i64 r); refine Calls.regrown_of (v := .bool true) ((e7 _ ?_).mono ?_); exact hL4.grown0 (gr_of_below (below_regrown _ _ _) none); (rintro e w' ⟨he, hg⟩; exact ⟨he, gr_below hg⟩)) | (go_at_call 16; refine Calls.regrown_of (v := .bool false) ((e6 _ ?_).mono ?_); exact hL4.grown0 (gr_of_below (below_regrown _ _ _) none); (rintro e w' ⟨he, hg⟩; exact ⟨he, gr_below hg⟩)))) | quiet_step ((first | (go_at_call_of 16 (Value.int IntKind.i64 r); refine Calls.regrown_of (v := .bool true) ((e7 _ ?_).mono ?_); exact hL4.grown0 (gr_of_below (below_regrown _ _ _) none); (rintro e w' ⟨he, hg⟩; exact ⟨he, gr_below hg⟩)) | (go_at_call 16; refine Calls.regrown_of (v := .bool false) ((e6 _ ?_).mono ?_); exact hL4.grown0 (gr_of_below (below_regrown _ _ _) none); (rintro e w' ⟨he, hg⟩; exact ⟨he, gr_below hg⟩)))))
        refine wpQuiet_nil ?_
        intro _ hw'
        obtain ⟨⟨dq, osq⟩, hw''⟩ := hw'
        subst hw''
        go_wp2_with fail
        go_ret
        exact ⟨ret_bool (by first | (simp [*]; done) | (simpa using hx)), gr_0 G4 (gr_of_below (below_regrown _ _ _) none)⟩
end Go.Proofs.Ytjhkmgoephmbpaa
