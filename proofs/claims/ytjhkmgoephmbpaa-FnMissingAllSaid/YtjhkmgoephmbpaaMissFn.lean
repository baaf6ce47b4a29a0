/- The walks of FnMissing and FnMissingAll. -/
import Derived.Test.YtjhkmgoephmbpaaMissS
import Derived.Test.YtjhkmgoephmbpaaSame
import Derived.Lib.QuietBelow
import Derived.BigQuiet
namespace Go.Proofs.Ytjhkmgoephmbpaa
open Go.RowKit

set_option maxHeartbeats 400000 in
theorem dms_any (A : Option Addr) (n c : Nat) (zs : List Int) (w : World) (h : Code w A n c zs) :
    Calls Try.prog 19 #[.slice A n c] w (CkEnds w) := by
  have F0 := Full.new w 25 #[.int .i64 0, .slice none 0 0]
  go_enter Try.func19, Try.ntmps19
  go_wp2_with fail
  refine (open_any A n c zs _ (h.grown (World.grownBy_alloc w _ none))).mono ?_
  rintro e w1 ⟨g, rfl, hr1, hg1⟩
  have F1 := F0.grown hg1 (by simp)
  have G1 := gr_trans (World.grownBy_alloc w _ none) hg1
  have hB := hr1.ge
  simp at hB
  have hs1 := hg1.size
  simp at hs1
  clear hg1
  go_wp2_with fail
  refine (ck92_any _ g 90000 _ (hr1.less (by omega))).mono ?_
  rintro e w2 ⟨d, A2, n2, c2, xs, rfl, hO, hl, hsm, hr2, hg2⟩
  have F2 := F1.grown hg2 (by intro e; injection e with e; omega)
  have G2 := gr_new G1 hg2 (by omega)
  have hO2 := ((hO.put F2 (by decide) 0 (.int .i64 d)).put (F2.set 0 _) (by decide) 1 (.slice A2 n2 c2)).base_le (show w.heap.size ≤ w1.heap.size by omega)
  clear hg2 hO
  have c0 := F2.cellAt 0 rfl
  have c1 := F2.cellAt 1 rfl
  have f0 := F2.free 0
  have f1 := F2.free 1
  go_wp2_with fail
  refine bodyPost_ret (v := .agg #[.int .i64 d, .slice A2 n2 c2]) ?_ rfl ?_
  · simp [results, Try.results19, go_sem, c0, c1]
  · exact ⟨d, A2, n2, c2, xs, rfl, hO2, hl, hsm, by repeat (first | refine gr_put ?_ (by omega) _ | exact G2)⟩

theorem msV_ck {d : Int} {xs : List Int} (h : 0 < (msV d xs).length) : ckB d xs = true := by
  cases hb : ckB d xs with
  | true => rfl
  | false => rw [msV_no hb] at h; simp at h
theorem chB_miss {d : Int} {xs : List Int} (h : ckB d xs = true) {x : Int} (hx : x ∈ missA d xs) : chB d xs x = false := by
  obtain ⟨h1, h2, _⟩ := missA_mem (asc_low (ckB_parts h).2.2 (show d - 1 ≤ d by omega)) hx
  have : hasB d xs x = false := by rw [hasB_out h2]; simp; omega
  simp [chB, this]

set_option maxHeartbeats 2000000 in
theorem missing_walk (A : Option Addr) (n c : Nat) (zs : List Int) (w : World) (h : Code w A n c zs) :
    Calls Try.prog 6 #[.slice A n c] w fun e w' => e = .returned (.bool true) ∧ w.grownBy w' none := by
  have hc := h.cap
  have hm := h.max
  unfold maxLen at hm
  by_cases h1 : n > 1048576
  · go_enter Try.func6, Try.ntmps6
    go_wp2
    go_ret
    exact ⟨rfl, gr_refl _ _⟩
  go_enter Try.func6, Try.ntmps6
  go_wp2_with fail
  refine (dms_any A n c zs _ h).mono ?_
  rintro e w1 ⟨d, B, N, C, xs, rfl, hO, hl, hsm, hg1⟩
  have hC := hO.cap
  have hCm := hO.max
  have hd0 := hsm.d0
  have hd1 := hsm.d1
  have hN := hsm.len
  rw [hl] at hN
  obtain ⟨l, hml⟩ : ∃ y, msV d xs = y := ⟨_, rfl⟩
  have e1 := fun w hL => ms_any d B N C xs w hL hl hC hCm
  have e2 := fun w hL => sms_any d B N C xs w hL hl hC hCm (by omega) (by omega)
  rw [hml] at e1 e2
  have HM := hid hml
  have HL := hid hl
  have e9 := fun (y : Int) (w : World) hL => ch_any d B N C xs y w hL hl hC hCm
  have L1 := hO.lies.alloc (.cells #[.int .i64 d, .slice B N C] 25)
  have P1 := Full.new w1 25 #[.int .i64 d, .slice B N C]
  have G1 := gr_alloc hg1 (.cells #[.int .i64 d, .slice B N C] 25)
  clear hl hO hg1 hml
  unfold maxLen at hCm
  go_wp2_with fail
  refine (e1 _ L1).mono ?_
  rintro e w2 ⟨A1, m, c1, rfl, hO1, hl1, hg2⟩
  have L2 := L1.grown0 hg2
  have P2 := P1.grown hg2 (by simp)
  have G2 := gr_0 G1 hg2
  clear hg2
  have pc0 := P2.cellAt 0 rfl
  have pc1 := P2.cellAt 1 rfl
  have hcA1 := hO1.cap
  have hmA1 := hO1.max
  go_wp2_with fail
  refine (e2 _ L2).mono ?_
  rintro e w3 ⟨A2, m2, c2, rfl, hO2, hl2, hg3⟩
  have L3 := L2.grown0 hg3
  have P3 := P2.grown hg3 (by simp)
  have G3 := gr_0 G2 hg3
  have O3 := hO1.kept0 hg3
  clear hg3
  have pc0 := P3.cellAt 0 rfl
  have pc1 := P3.cellAt 1 rfl
  have hcA2 := hO2.cap
  have hmA2 := hO2.max
  obtain rfl : m = m2 := hl1.symm.trans hl2
  have LA := O3.lies
  have LB := hO2.lies
  have e3 := fun w hA hB => si_is A1 A2 m m c1 c2 l l true w hA hB hl1 hl2 hcA1 hmA1 hcA2 hmA2 (by simp)
  have HLn := hid hl1
  clear hl1 hl2 e1 e2
  unfold maxLen at hmA1 hmA2
  rcases (by omega : m = 0 ∨ 0 < m) with h0 | h0
  · have hz : ((m : Int) == 0) = true := by simp [h0]
    clear h0
    go_wp2_with fail
    refine (e3 _ LA LB).mono ?_
    rintro e w4 ⟨rfl, hg4⟩
    have L4 := L3.grown0 hg4
    have P4 := P3.grown hg4 (by simp)
    have G4 := gr_0 G3 hg4
    have LA4 := LA.grown0 hg4
    have LB4 := LB.grown0 hg4
    clear hg4
    go_wp2_with fail
    refine (e3 _ LA4 LB4).mono ?_
    rintro e w5 ⟨rfl, hg5⟩
    have L5 := L4.grown0 hg5
    have P5 := P4.grown hg5 (by simp)
    have G5 := gr_0 G4 hg5
    have LA5 := LA4.grown0 hg5
    have LB5 := LB4.grown0 hg5
    clear hg5
    go_wp2_with fail
    go_ret
    exact ⟨rfl, G5⟩
  · have hz : ((m : Int) == 0) = false := by simp; omega
    have hck : ckB d xs = true := msV_ck (by rw [HM.out, HLn.out]; exact h0)
    have hlm : l = missA d xs := by rw [← HM.out]; exact msV_yes hck
    have hasc := missA_asc (lo := d - 1) (asc_low (ckB_parts hck).2.2 (show d - 1 ≤ d by omega)) (show d - 1 < d by omega)
    rw [← hlm] at hasc
    obtain ⟨r, hr⟩ := missA_head (ckB_parts hck).2.2 (by rw [← hlm]; intro e; have := HLn.out; rw [e] at this; simp at this; omega)
    rw [← hlm] at hr
    have HA := hid hasc
    have HC := hid hck
    have HLM := hid hlm
    have HR := hid hr
    clear hck hlm hasc hr
    go_wp2_with fail
    refine (e3 _ LA LB).mono ?_
    rintro e w4 ⟨rfl, hg4⟩
    have L4 := L3.grown0 hg4
    have P4 := P3.grown hg4 (by simp)
    have G4 := gr_0 G3 hg4
    have LA4 := LA.grown0 hg4
    have LB4 := LB.grown0 hg4
    clear hg4
    have pc0 := P4.cellAt 0 rfl
    have pc1 := P4.cellAt 1 rfl
    clear e3
    go_wp2_with fail
    go_loopw [6] (fun i wr => ∃ k : Nat, i = .int .i64 k ∧ k ≤ m ∧ w4.grownBy wr none) (fun i _ => m - (intOf i).toNat)
    case atStart => exact ⟨0, rfl, by omega, gr_refl _ _⟩
    case round =>
      obtain ⟨k, rfl, hkm, hgr⟩ := hrel
      have Lr := L4.grown0 hgr
      have Pr := P4.grown hgr (by simp)
      have Ar := LA4.grown0 hgr
      have Gr := gr_0 G4 hgr
      obtain ⟨g, o, rfl, hg, hcell⟩ := Ar.open_ (by rw [ints_len, HLn.out]; exact h0)
      have p0 := Pr.cellAt 0 rfl
      have p1 := Pr.cellAt 1 rfl
      by_cases hlt : k < m
      · have hkl : k < l.length := by rw [HLn.out]; exact hlt
        have cx := intAt hcell hkl
        have hch := chB_miss HC.out (x := l[k]) (by rw [← HLM.out]; exact List.getElem_mem hkl)
        obtain ⟨x, hx⟩ : ∃ x, l[k] = x := ⟨_, rfl⟩
        rw [hx] at cx hch
        have e4 := e9 x
        rw [hch] at e4
        have HX := hid hx
        have k0 := fun d os => cell_regrown p0 d os
        have k1 := fun d os => cell_regrown p1 d os
        have k2 := fun d os => cell_regrown cx d os
        have b1 : (0 : Int) ≤ (k : Int) := by omega
        have b2 : (k : Int) < (m : Int) := by omega
        clear hx hch e9
        rcases (by omega : k = 0 ∨ 0 < k) with hk | hk
        · have hk' : decide (0 < k) = false := by simp; omega
          clear hcell hk
          go_wp2_with fail
          refine wp_region_quiet_below (by kernel_rfl) (by kernel_rfl) ?_
          repeat (first | go_big_quiet_step ((go_at_call 16; refine Calls.regrown_of (v := .bool false) ((e4 _ ?_).mono ?_); exact Lr.grown0 (gr_of_below (below_regrown _ _ _) none); (rintro e w' ⟨he, hg⟩; exact ⟨he, gr_below hg⟩))) | quiet_step ((go_at_call 16; refine Calls.regrown_of (v := .bool false) ((e4 _ ?_).mono ?_); exact Lr.grown0 (gr_of_below (below_regrown _ _ _) none); (rintro e w' ⟨he, hg⟩; exact ⟨he, gr_below hg⟩))))
          refine wpQuiet_nil ?_
          intro _ hw'
          obtain ⟨⟨dq, osq⟩, hw2⟩ := hw'
          subst hw2
          go_wp2_with fail
          go_roundw
          case rel => exact ⟨k + 1, by go_num, by omega, gr_0 hgr (gr_of_below (below_regrown _ _ _) none)⟩
          case measure => simp [intOf]; omega
        · have hk' : decide (0 < k) = true := by simp; omega
          have hkl1 : k - 1 < l.length := by rw [HLn.out]; omega
          have cy := intAt hcell hkl1
          have hyx := asc_lt HA.out (show k - 1 < k by omega) hkl
          rw [HX.out] at hyx
          obtain ⟨y, hy⟩ : ∃ y, l[k - 1] = y := ⟨_, rfl⟩
          rw [hy] at cy hyx
          have k3 := fun d os => cell_regrown cy d os
          have b3 : (0 : Int) ≤ (k : Int) - 1 := by omega
          have b4 : (k : Int) - 1 < (m : Int) := by omega
          have b5 : ((k : Int) - 1).toNat = k - 1 := by omega
          have b7 : decide (x ≤ y) = false := by simp; omega
          clear hy hcell hk
          go_wp2_with fail
          refine wp_region_quiet_below (by kernel_rfl) (by kernel_rfl) ?_
          repeat (first | go_big_quiet_step ((go_at_call 16; refine Calls.regrown_of (v := .bool false) ((e4 _ ?_).mono ?_); exact Lr.grown0 (gr_of_below (below_regrown _ _ _) none); (rintro e w' ⟨he, hg⟩; exact ⟨he, gr_below hg⟩))) | quiet_step ((go_at_call 16; refine Calls.regrown_of (v := .bool false) ((e4 _ ?_).mono ?_); exact Lr.grown0 (gr_of_below (below_regrown _ _ _) none); (rintro e w' ⟨he, hg⟩; exact ⟨he, gr_below hg⟩))))
          refine wpQuiet_nil ?_
          intro _ hw'
          obtain ⟨⟨dq, osq⟩, hw2⟩ := hw'
          subst hw2
          go_wp2_with fail
          go_roundw
          case rel => exact ⟨k + 1, by go_num, by omega, gr_0 hgr (gr_of_below (below_regrown _ _ _) none)⟩
          case measure => simp [intOf]; omega
      · obtain rfl : k = m := by omega
        have hkl : 0 < l.length := by rw [HLn.out]; exact h0
        have cx := intAt hcell hkl
        have hl0 : l[0] = d := by simp [HR.out]
        rw [hl0, Nat.add_zero] at cx
        clear hl0 hcell e9
        go_wp2_with fail
        go_quiet (fail)
        go_wp2_with fail
        go_ret
        exact ⟨ret_bool (by simp), gr_drewN Gr _⟩

end Go.Proofs.Ytjhkmgoephmbpaa
