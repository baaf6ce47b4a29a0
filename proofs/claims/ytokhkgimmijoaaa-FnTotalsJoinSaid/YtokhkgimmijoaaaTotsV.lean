/- TotalsValid in impl and in spec. -/
import Derived.Test.YtokhkgimmijoaaaTotV
import Derived.Deep.RegionHeld3
namespace Go.Proofs.Ytokhkgimmijoaaa
open Go.RowKit

theorem totsB_bad {l : List Tot} {k : Nat} (hk : k < l.length) (h : totB l[k] = false) : totsB l = false :=
  totsB_no fun ⟨_, h2, _⟩ => by have := h2 _ (List.getElem_mem hk); rw [h] at this; cases this
theorem totsB_ord {l : List Tot} {k : Nat} (hk : k < l.length) (h0 : 0 < k) (h : sl (l[k - 1]'(by omega)).c l[k].c = false) : totsB l = false :=
  totsB_no fun ⟨_, _, h3⟩ => by have := ascT_at h3 (show k - 1 < k by omega) hk; rw [h] at this; cases this
theorem totsB_long {l : List Tot} (h : 24 < l.length) : totsB l = false := totsB_no fun ⟨h1, _, _⟩ => by omega
theorem totsB_all {l : List Tot} {k : Nat} (h : TotsTo l k) (hk : l.length ≤ k) (h1 : l.length ≤ 24) : totsB l = true := by
  have : TotsTo l l.length := by rw [TotsTo, List.take_length]; rw [TotsTo, List.take_of_length_le hk] at h; exact h
  exact totsB_iff.2 ⟨h1, totsTo_all this⟩
theorem sl_le {a b : ByteArray} (h : sl a b = true) : Op.bytesLess b.toList a.toList = false ∧ (b.toList == a.toList) = false := by
  refine ⟨sl_not h, ?_⟩
  rw [beq_bytes]
  exact decide_eq_false (sl_ne h).symm
theorem sl_ge {a b : ByteArray} (h : sl a b = false) : Op.bytesLess b.toList a.toList = true ∨ a = b := by
  rcases sl_tri a b with q | q | q
  · rw [h] at q; cases q
  · exact .inr q
  · exact .inl q
theorem sword_q (s : ByteArray) (b : Bool) (w : World) (hs : s.size ≤ maxLen) (h : wordB s = b) :
    Calls Try.prog 20 #[.string s] w fun e w' => e = .returned (.bool b) ∧ w' = w :=
  (sword_is s b w hs h).mono fun _ _ ⟨he, hw⟩ => ⟨he, hw.symm⟩

set_option maxHeartbeats 4000000 in
theorem tsv_is (A : Option Addr) (n c : Nat) (l : List Tot) (b : Bool) (w : World) (h : Lies w A (l.flatMap Tot.cells)) (hn : l.length = n) (hc : n ≤ c) (hm : c ≤ maxLen) (hsz : ∀ x ∈ l, x.c.size ≤ maxLen) (hb : totsB l = b) :
    Calls Try.prog 8 #[.slice A n c] w fun e w' => e = .returned (.bool b) ∧ w.grownBy w' none := by
  unfold maxLen at hm
  have HN := hid hn
  have HB := hid hb
  have HSz := hid hsz
  clear hn hb hsz
  by_cases hlong : 24 < n
  · have HL := hid (totsB_long (l := l) (by rw [HN.out]; exact hlong))
    go_enter Try.func8, Try.ntmps8
    go_wp2_with fail
    go_ret
    exact ⟨ret_bool (by rw [← HB.out, HL.out]), gr_refl _ _⟩
  go_enter Try.func8, Try.ntmps8
  go_wp2_with fail
  go_loopw [10] (fun i wr => ∃ k : Nat, i = .int .i64 k ∧ k ≤ n ∧ TotsTo l k ∧ w.grownBy wr none) (fun i _ => n - (intOf i).toNat)
  case atStart => exact ⟨0, rfl, by omega, totsTo_zero l, gr_refl _ _⟩
  case round =>
    obtain ⟨k, rfl, hkn, hok, hgr⟩ := hrel
    have HO := hid hok
    clear hok
    by_cases hlt : k < n
    · have hkl : k < l.length := by rw [HN.out]; exact hlt
      obtain ⟨g, o, rfl, hg, hcell⟩ := h.open_ (by rw [flat_len Tot.cells 3 (fun _ => rfl)]; omega)
      obtain ⟨ca, cb, cc⟩ := totAt hcell hkl
      replace ca := hgr.cell ca (by simp)
      replace cb := hgr.cell cb (by simp)
      replace cc := hgr.cell cc (by simp)
      have hcs := HSz.out _ (List.getElem_mem hkl)
      have HBad := hid (totsB_bad hkl)
      have HNx := hid (totsTo_next HO.out hkl)
      have b1 : (0 : Int) ≤ (k : Int) := by omega
      have b2 : (k : Int) < (n : Int) := by omega
      have hprev : k = 0 ∨ (∃ y : ByteArray, 0 < k ∧ (∀ _ : 0 < k, (l[k - 1]'(by omega)).c = y) ∧ wr.cell? ⟨g, o + (k - 1) * 3, none⟩ = some (.string y) ∧ (sl y l[k].c = false → totsB l = false)) := by
        rcases Nat.eq_zero_or_pos k with q | q
        · exact .inl q
        · exact .inr ⟨_, q, fun _ => rfl, hgr.cell (totAt hcell (show k - 1 < l.length by omega)).1 (by simp), fun q2 => totsB_ord hkl q q2⟩
      obtain ⟨z, hz⟩ : ∃ z, l[k] = z := ⟨_, rfl⟩
      simp only [hz] at ca cb cc hcs HBad HNx hprev
      obtain ⟨tc, tm, ts⟩ := z
      simp only [] at ca cb cc hcs HBad HNx hprev
      clear hz hcell
      have E := Full.new wr 30 #[.string tc, .int .i64 tm, .int .i64 ts]
      have k0 := fun d os => cell_regrown (E.cellAt 0 rfl) d os
      have k1 := fun d os => cell_regrown (E.cellAt 1 rfl) d os
      have k2 := fun d os => cell_regrown (E.cellAt 2 rfl) d os
      have x0 := E.cellAt 0 rfl
      have x1 := E.cellAt 1 rfl
      have x2 := E.cellAt 2 rfl
      clear E
      obtain ⟨bv, hbv⟩ : ∃ b, totB ⟨tc, tm, ts⟩ = b := ⟨_, rfl⟩
      have e1 := fun w => tv_is tc tm ts bv w hcs hbv
      have HBv := hid hbv
      clear hbv hcs
      cases bv with
      | false =>
        have HF := hid (HBad.out HBv.out)
        clear HBad HNx hprev
        go_wp2_with fail
        refine wp_region_quiet_below (by kernel_rfl) (by kernel_rfl) ?_
        repeat (first | go_big_quiet_step (((go_at_call 19; refine Calls.regrown_of (v := .bool false) ((e1 _).mono ?_); (rintro e w' ⟨he, hg⟩; exact ⟨he, gr_below hg⟩)))) | quiet_step (((go_at_call 19; refine Calls.regrown_of (v := .bool false) ((e1 _).mono ?_); (rintro e w' ⟨he, hg⟩; exact ⟨he, gr_below hg⟩)))))
        refine wpQuiet_nil ?_
        intro _ hw'
        obtain ⟨⟨dq, osq⟩, hw''⟩ := hw'
        subst hw''
        go_wp2_with fail
        go_ret
        exact ⟨ret_bool (by rw [← HB.out, HF.out]), (gr_0 (gr_alloc hgr _) (gr_of_below (below_regrown _ _ _) none))⟩
      | true =>
        rcases hprev with hk0 | ⟨y, hk0, hy, cy, hord⟩
        · have HF := hid (HNx.out HBv.out (fun q => by omega))
          have hk' : decide (0 < k) = false := by simp; omega
          clear HBad HNx hk0
          go_wp2_with fail
          refine wp_region_quiet_below (by kernel_rfl) (by kernel_rfl) ?_
          repeat (first | go_big_quiet_step (((go_at_call 19; refine Calls.regrown_of (v := .bool true) ((e1 _).mono ?_); (rintro e w' ⟨he, hg⟩; exact ⟨he, gr_below hg⟩)))) | quiet_step (((go_at_call 19; refine Calls.regrown_of (v := .bool true) ((e1 _).mono ?_); (rintro e w' ⟨he, hg⟩; exact ⟨he, gr_below hg⟩)))))
          refine wpQuiet_nil ?_
          intro _ hw'
          obtain ⟨⟨dq, osq⟩, hw''⟩ := hw'
          subst hw''
          go_wp2_with fail
          go_roundw
          case rel => exact ⟨k + 1, by go_num, by omega, HF.out, (gr_0 (gr_alloc hgr _) (gr_of_below (below_regrown _ _ _) none))⟩
          case measure => simp [intOf]; omega
        · have hk' : decide (0 < k) = true := by simp; omega
          have b3 : (0 : Int) ≤ (k : Int) - 1 := by omega
          have b4 : (k : Int) - 1 < (n : Int) := by omega
          have b5 : ((k : Int) - 1).toNat = k - 1 := by omega
          have ky := fun d os => cell_regrown ((World.grownBy_alloc wr (.cells #[.string tc, .int .i64 tm, .int .i64 ts] 30) none).cell cy (by simp)) d os
          obtain ⟨bs, hbs⟩ : ∃ b, sl y tc = b := ⟨_, rfl⟩
          cases bs with
          | false =>
            have HF := hid (hord hbs)
            rcases sl_ge hbs with hl | hl
            · clear HBad HNx hy hord hbs hk0
              go_wp2_with fail
              refine wp_region_quiet_below (by kernel_rfl) (by kernel_rfl) ?_
              repeat (first | go_big_quiet_step (((go_at_call 19; refine Calls.regrown_of (v := .bool true) ((e1 _).mono ?_); (rintro e w' ⟨he, hg⟩; exact ⟨he, gr_below hg⟩)))) | quiet_step (((go_at_call 19; refine Calls.regrown_of (v := .bool true) ((e1 _).mono ?_); (rintro e w' ⟨he, hg⟩; exact ⟨he, gr_below hg⟩)))))
              refine wpQuiet_nil ?_
              intro _ hw'
              obtain ⟨⟨dq, osq⟩, hw''⟩ := hw'
              subst hw''
              go_wp2_with fail
              go_ret
              exact ⟨ret_bool (by rw [← HB.out, HF.out]), (gr_0 (gr_alloc hgr _) (gr_of_below (below_regrown _ _ _) none))⟩
            · subst hl
              clear HBad HNx hy hord hbs hk0
              go_wp2_with fail
              refine wp_region_quiet_below (by kernel_rfl) (by kernel_rfl) ?_
              repeat (first | go_big_quiet_step (((go_at_call 19; refine Calls.regrown_of (v := .bool true) ((e1 _).mono ?_); (rintro e w' ⟨he, hg⟩; exact ⟨he, gr_below hg⟩)))) | quiet_step (((go_at_call 19; refine Calls.regrown_of (v := .bool true) ((e1 _).mono ?_); (rintro e w' ⟨he, hg⟩; exact ⟨he, gr_below hg⟩)))))
              refine wpQuiet_nil ?_
              intro _ hw'
              obtain ⟨⟨dq, osq⟩, hw''⟩ := hw'
              subst hw''
              go_wp2_with fail
              go_ret
              exact ⟨ret_bool (by rw [← HB.out, HF.out]), (gr_0 (gr_alloc hgr _) (gr_of_below (below_regrown _ _ _) none))⟩
          | true =>
            have HF := hid (HNx.out HBv.out (fun q => by rw [hy q]; exact hbs))
            obtain ⟨hl, he⟩ := sl_le hbs
            clear HBad HNx hy hord hbs hk0
            go_wp2_with fail
            refine wp_region_quiet_below (by kernel_rfl) (by kernel_rfl) ?_
            repeat (first | go_big_quiet_step (((go_at_call 19; refine Calls.regrown_of (v := .bool true) ((e1 _).mono ?_); (rintro e w' ⟨he, hg⟩; exact ⟨he, gr_below hg⟩)))) | quiet_step (((go_at_call 19; refine Calls.regrown_of (v := .bool true) ((e1 _).mono ?_); (rintro e w' ⟨he, hg⟩; exact ⟨he, gr_below hg⟩)))))
            refine wpQuiet_nil ?_
            intro _ hw'
            obtain ⟨⟨dq, osq⟩, hw''⟩ := hw'
            subst hw''
            go_wp2_with fail
            go_roundw
            case rel => exact ⟨k + 1, by go_num, by omega, HF.out, (gr_0 (gr_alloc hgr _) (gr_of_below (below_regrown _ _ _) none))⟩
            case measure => simp [intOf]; omega
    · obtain rfl : k = n := by omega
      have HF := hid (totsB_all HO.out (by rw [HN.out]; omega) (by rw [HN.out]; omega))
      go_wp2_with fail
      go_ret
      exact ⟨ret_bool (by rw [← HB.out, HF.out]), hgr⟩

set_option maxHeartbeats 4000000 in
theorem stsv_is (A : Option Addr) (n c : Nat) (l : List Tot) (b : Bool) (w : World) (h : Lies w A (l.flatMap Tot.cells)) (hn : l.length = n) (hc : n ≤ c) (hm : c ≤ maxLen) (hsz : ∀ x ∈ l, x.c.size ≤ maxLen) (hb : totsB l = b) :
    Calls Try.prog 9 #[.slice A n c] w fun e w' => e = .returned (.bool b) ∧ w.grownBy w' none := by
  unfold maxLen at hm
  have HN := hid hn
  have HB := hid hb
  have HSz := hid hsz
  clear hn hb hsz
  go_enter Try.func9, Try.ntmps9
  go_wp2_with fail
  go_loopw [3] (fun i wr => ∃ k : Nat, i = .int .i64 k ∧ k ≤ n ∧ TotsTo l k ∧ w.grownBy wr none) (fun i _ => n - (intOf i).toNat)
  case atStart => exact ⟨0, rfl, by omega, totsTo_zero l, gr_refl _ _⟩
  case round =>
    obtain ⟨k, rfl, hkn, hok, hgr⟩ := hrel
    have HO := hid hok
    clear hok
    by_cases hlt : k < n
    · have hkl : k < l.length := by rw [HN.out]; exact hlt
      obtain ⟨g, o, rfl, hg, hcell⟩ := h.open_ (by rw [flat_len Tot.cells 3 (fun _ => rfl)]; omega)
      obtain ⟨ca, cb, cc⟩ := totAt hcell hkl
      replace ca := hgr.cell ca (by simp)
      replace cb := hgr.cell cb (by simp)
      replace cc := hgr.cell cc (by simp)
      have hcs := HSz.out _ (List.getElem_mem hkl)
      have HBad := hid (totsB_bad hkl)
      have HNx := hid (totsTo_next HO.out hkl)
      have b1 : (0 : Int) ≤ (k : Int) := by omega
      have b2 : (k : Int) < (n : Int) := by omega
      have hprev : k = 0 ∨ (∃ y : ByteArray, 0 < k ∧ (∀ _ : 0 < k, (l[k - 1]'(by omega)).c = y) ∧ wr.cell? ⟨g, o + (k - 1) * 3, none⟩ = some (.string y) ∧ (sl y l[k].c = false → totsB l = false)) := by
        rcases Nat.eq_zero_or_pos k with q | q
        · exact .inl q
        · exact .inr ⟨_, q, fun _ => rfl, hgr.cell (totAt hcell (show k - 1 < l.length by omega)).1 (by simp), fun q2 => totsB_ord hkl q q2⟩
      obtain ⟨z, hz⟩ : ∃ z, l[k] = z := ⟨_, rfl⟩
      simp only [hz] at ca cb cc hcs HBad HNx hprev
      obtain ⟨tc, tm, ts⟩ := z
      simp only [] at ca cb cc hcs HBad HNx hprev
      clear hz hcell
      have E := Full.new wr 30 #[.string tc, .int .i64 tm, .int .i64 ts]
      have x0 := E.cellAt 0 rfl
      have x1 := E.cellAt 1 rfl
      have x2 := E.cellAt 2 rfl
      clear E
      obtain ⟨bw, hbw⟩ : ∃ b, wordB tc = b := ⟨_, rfl⟩
      have e1 := fun w => sword_q tc bw w hcs hbw
      have HBw := hid hbw
      clear hbw hcs
      cases bw with
      | false =>
        have e2 := e1
        have e3 := e1
        have HF := hid (HBad.out (totB_c HBw.out))
        clear HBad HNx hprev
        go_wp2_with fail
        go_quiet (((first | (go_at_call 20; exact Calls.quiet_of_same (e1 _)) | (go_at_call_of 21 (Value.int IntKind.i64 99); exact Calls.quiet_of_same (e2 _)) | (go_at_call 21; exact Calls.quiet_of_same (e3 _)))))
        go_wp2_with fail
        go_ret
        exact ⟨ret_bool (by rw [← HB.out, HF.out]), (gr_drewN (gr_alloc hgr _) _)⟩
      | true =>
        rcases (by omega : (tm < 1 ∨ 99 < tm) ∨ (1 ≤ tm ∧ tm ≤ 99)) with q | ⟨q, q2⟩
        · have e2 := fun w => in_q tm 1 99 false w (inR_false q)
          have e3 := e1
          have HF := hid (HBad.out (totB_m q))
          clear HBad HNx hprev q
          go_wp2_with fail
          go_quiet (((first | (go_at_call 20; exact Calls.quiet_of_same (e1 _)) | (go_at_call_of 21 (Value.int IntKind.i64 99); exact Calls.quiet_of_same (e2 _)) | (go_at_call 21; exact Calls.quiet_of_same (e3 _)))))
          go_wp2_with fail
          go_ret
          exact ⟨ret_bool (by rw [← HB.out, HF.out]), (gr_drewN (gr_alloc hgr _) _)⟩
        have e2 := fun w => in_q tm 1 99 true w (inR_true q q2)
        have hw1 : IntKind.i64.wrap (999 * tm) = 999 * tm := IntWalk.i64_in _ (by omega)
        rcases (by omega : (ts < 0 ∨ 999 * tm < ts) ∨ (0 ≤ ts ∧ ts ≤ 999 * tm)) with r | ⟨r, r2⟩
        · have e3 := fun w => in_q ts 0 (999 * tm) false w (inR_false r)
          have HF := hid (HBad.out (totB_s (by simp only []; omega)))
          clear HBad HNx hprev r
          go_wp2_with fail
          go_quiet (((first | (go_at_call 20; exact Calls.quiet_of_same (e1 _)) | (go_at_call_of 21 (Value.int IntKind.i64 99); exact Calls.quiet_of_same (e2 _)) | (go_at_call 21; exact Calls.quiet_of_same (e3 _)))))
          go_wp2_with fail
          go_ret
          exact ⟨ret_bool (by rw [← HB.out, HF.out]), (gr_drewN (gr_alloc hgr _) _)⟩
        have e3 := fun w => in_q ts 0 (999 * tm) true w (inR_true r r2)
        have hbv : totB ⟨tc, tm, ts⟩ = true := totB_yes HBw.out q q2 r (by simp only []; omega)
        rcases hprev with hk0 | ⟨y, hk0, hy, cy, hord⟩
        · have HF := hid (HNx.out hbv (fun q => by omega))
          have hk' : decide (0 < k) = false := by simp; omega
          clear HBad HNx hk0 hbv
          go_wp2_with fail
          go_quiet (((first | (go_at_call 20; exact Calls.quiet_of_same (e1 _)) | (go_at_call_of 21 (Value.int IntKind.i64 99); exact Calls.quiet_of_same (e2 _)) | (go_at_call 21; exact Calls.quiet_of_same (e3 _)))))
          go_wp2_with fail
          go_roundw
          case rel => exact ⟨k + 1, by go_num, by omega, HF.out, (gr_drewN (gr_alloc hgr _) _)⟩
          case measure => simp [intOf]; omega
        · have hk' : decide (0 < k) = true := by simp; omega
          have b3 : (0 : Int) ≤ (k : Int) - 1 := by omega
          have b4 : (k : Int) - 1 < (n : Int) := by omega
          have b5 : ((k : Int) - 1).toNat = k - 1 := by omega
          replace cy := (World.grownBy_alloc wr (.cells #[.string tc, .int .i64 tm, .int .i64 ts] 30) none).cell cy (by simp)
          obtain ⟨bs, hbs⟩ : ∃ b, sl y tc = b := ⟨_, rfl⟩
          cases bs with
          | false =>
            have HF := hid (hord hbs)
            have hl : Op.bytesLess y.toList tc.toList = false := hbs
            clear HBad HNx hy hord hbs hk0 hbv
            go_wp2_with fail
            go_quiet (((first | (go_at_call 20; exact Calls.quiet_of_same (e1 _)) | (go_at_call_of 21 (Value.int IntKind.i64 99); exact Calls.quiet_of_same (e2 _)) | (go_at_call 21; exact Calls.quiet_of_same (e3 _)))))
            go_wp2_with fail
            go_ret
            exact ⟨ret_bool (by rw [← HB.out, HF.out]), (gr_drewN (gr_alloc hgr _) _)⟩
          | true =>
            have HF := hid (HNx.out hbv (fun q => by rw [hy q]; exact hbs))
            have hl : Op.bytesLess y.toList tc.toList = true := hbs
            clear HBad HNx hy hord hbs hk0 hbv
            go_wp2_with fail
            go_quiet (((first | (go_at_call 20; exact Calls.quiet_of_same (e1 _)) | (go_at_call_of 21 (Value.int IntKind.i64 99); exact Calls.quiet_of_same (e2 _)) | (go_at_call 21; exact Calls.quiet_of_same (e3 _)))))
            go_wp2_with fail
            go_roundw
            case rel => exact ⟨k + 1, by go_num, by omega, HF.out, (gr_drewN (gr_alloc hgr _) _)⟩
            case measure => simp [intOf]; omega
    · obtain rfl : k = n := by omega
      by_cases hlong : k ≤ 24
      · have HF := hid (totsB_all HO.out (by rw [HN.out]; omega) (by rw [HN.out]; omega))
        have hd : decide (k ≤ 24) = true := by simpa using hlong
        go_wp2_with fail
        go_ret
        exact ⟨ret_bool (by rw [← HB.out, HF.out]; first | rfl | (simp; done) | (simp; omega)), hgr⟩
      · have HF := hid (totsB_long (l := l) (by rw [HN.out]; omega))
        have hd : decide (k ≤ 24) = false := by simp; omega
        go_wp2_with fail
        go_ret
        exact ⟨ret_bool (by rw [← HB.out, HF.out]; first | rfl | (simp; done) | (simp; omega)), hgr⟩
end Go.Proofs.Ytokhkgimmijoaaa
