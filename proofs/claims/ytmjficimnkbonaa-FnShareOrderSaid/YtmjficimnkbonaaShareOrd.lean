/- The walk of FnShareOrder. -/
import Derived.Test.YtmjficimnkbonaaShareW
namespace Go.Proofs.Ytmjficimnkbonaa
open Go.RowKit

set_option maxHeartbeats 4000000 in
theorem shareOrder_walk (A : Option Addr) (n c : Nat) (zs : List Int) (w : World) (h : Code w A n c zs) :
    Calls Try.prog 10 #[.slice A n c] w fun e w' => e = .returned (.bool true) ∧ w.grownBy w' none := by
  have hc := h.cap
  have hm := h.max
  unfold maxLen at hm
  by_cases h1 : n > 1048576
  · go_enter Try.func10, Try.ntmps10
    go_wp2
    go_ret
    exact ⟨rfl, gr_refl _ _⟩
  go_enter Try.func10, Try.ntmps10
  go_wp2_with fail
  refine (dgs_any A n c zs _ h).mono ?_
  rintro e w1 ⟨s, P, N, C, ms, x, rfl, hP, hN, hsz, hs0, hs9, hx, hg1⟩
  have hC := hP.cap
  have hCm := hP.max
  unfold maxLen at hCm
  have X1 := Full.new w1 25 #[.int .i64 s, .slice P N C]
  have P1 := hP.alloc (.cells #[.int .i64 s, .slice P N C] 25)
  have G1 := gr_alloc hg1 (.cells #[.int .i64 s, .slice P N C] 25)
  obtain ⟨sh, hsh⟩ : ∃ v, shareOf s ms x = v := ⟨_, rfl⟩
  obtain ⟨b, hb⟩ : ∃ b, grpB s ms = b := ⟨_, rfl⟩
  have HSH := hid hsh
  have HB := hid hb
  have HL := hid hP.len
  have hshl := hid (show sh.length ≤ 9 from by
    rw [← hsh]
    by_cases q : grpB s ms = true
    · have := share_len (m := x) q; omega
    · rw [shareOf_no (by simpa using q)]; simp)
  have e1 := gsh_any s P N C ms x _ P1
  rw [hsh] at e1
  have c0 := X1.cellAt 0 (v := .int .i64 s) rfl
  have c1 := X1.cellAt 1 (v := .slice P N C) rfl
  clear hsh hb hP hg1 hsz
  go_wp2_with fail
  refine e1.mono ?_
  rintro e w2 ⟨U, nU, cU, rfl, hU, hUl, hg2⟩
  have X2 := X1.grown hg2 (by simp)
  have P2 := P1.grown0 hg2
  have G2 := gr_0 G1 hg2
  have e2 := sgsh_any s P N C ms x _ P2
  rw [HSH.out] at e2
  clear e1 X1 P1 G1 hg2 c0 c1
  have c0 := X2.cellAt 0 (v := .int .i64 s) rfl
  have c1 := X2.cellAt 1 (v := .slice P N C) rfl
  go_wp2_with fail
  refine e2.mono ?_
  rintro e w3 ⟨V, nV, cV, rfl, hV, hVl, hg3⟩
  have X3 := X2.grown hg3 (by simp)
  have P3 := P2.grown0 hg3
  have U3 := hU.kept0 hg3
  have G3 := gr_0 G2 hg3
  have hUn : nU ≤ 9 := by have := hshl.out; omega
  obtain rfl : nV = nU := hVl.symm.trans hUl
  have HUl := hid hUl
  have hcU := U3.cap
  have hmU := U3.max
  have hcV := hV.cap
  have hmV := hV.max
  have e3 := fun w (hU : Lies w U (ints sh)) (hV : Lies w V (ints sh)) => si_is U V nV nV cU cV sh sh true w hU hV hUl hUl hcU hmU hcV hmV (by simp)
  unfold maxLen at hmU hmV
  have e3a := e3 w3 U3.lies hV.lies
  clear e2 X2 P2 G2 hg3 hU c0 c1 hUl hVl
  go_wp2_with fail
  refine e3a.mono ?_
  rintro e w4 ⟨rfl, hg4⟩
  have X4 := X3.grown hg4 (by simp)
  have P4 := P3.grown0 hg4
  have U4 := U3.kept0 hg4
  have V4 := hV.kept0 hg4
  have G4 := gr_0 G3 hg4
  clear e3a X3 P3 U3 hV G3 hg4
  have c0 := X4.cellAt 0 (v := .int .i64 s) rfl
  have c1 := X4.cellAt 1 (v := .slice P N C) rfl
  rcases (by omega : nV = 0 ∨ 1 ≤ nV) with q | q
  · have q' : ((nV : Int) == 0) = true := by simp [q]
    have e5 := e3 _ U4.lies V4.lies
    clear q
    go_wp2_with fail
    refine e5.mono ?_
    rintro e w6 ⟨rfl, hg6⟩
    go_wp2_with fail
    go_ret
    exact ⟨rfl, gr_0 G4 hg6⟩
  · have q' : ((nV : Int) == 0) = false := by simp; omega
    have HTrue := hid (show grpB s ms = true from by
      by_cases q2 : grpB s ms = true
      · exact q2
      · have := HUl.out
        rw [← HSH.out, shareOf_no (by simpa using q2)] at this
        simp at this
        omega)
    clear e3 V4
    have HX4 := hid X4
    have HP4 := hid P4
    have HU4 := hid U4
    have hbn := (grpB_iff.1 HTrue.out).2.1
    have hNl := HL.out
    have hN6 : N ≤ 6 := by omega
    clear X4 P4 U4 c0 c1 q'
    go_wp2_with fail
    obtain ⟨gU, hUe, hUc⟩ : ∃ gU, U = some ⟨gU, 0, none⟩ ∧ ∀ w' : World, w4.grownBy w' none → ∀ (j : Nat) (hj : j < sh.length), w'.cell? ⟨gU, j, none⟩ = some (.int .i64 sh[j]) := by
      obtain ⟨gU, cur, hUe, _, _, hcell⟩ := HU4.out.open_ (by omega)
      exact ⟨gU, hUe, fun w' h j hj => h.cell (hcell j _ (ints_at sh j hj)) (by simp)⟩
    subst hUe
    have HUC := hid hUc
    have HOr := hid (share_order (m := x) HTrue.out)
    rw [HSH.out, HL.out] at HOr
    have HSm := hid (show ∀ y ∈ sh, (0 : Int) ≤ y ∧ y ≤ 8 from fun y hy => by
      obtain ⟨⟨h1, h2⟩, _⟩ := grpB_iff.1 HTrue.out
      have hy2 := hy
      rw [← HSH.out, shareOf_yes HTrue.out] at hy2
      obtain ⟨t, ht, rfl⟩ := List.mem_map.1 hy2
      have := List.mem_range.1 (List.mem_filter.1 ht).1
      omega)
    clear hUc
    go_loopw [7] (fun i wr => ∃ k : Nat, i = .int .i64 ((k : Int) + 1) ∧ k + 1 ≤ nV ∧ w4.grownBy wr none) (fun i _ => nV - (intOf i).toNat)
    case atStart => exact ⟨0, rfl, by omega, gr_refl _ _⟩
    case round =>
      obtain ⟨k, rfl, hkn, hgr⟩ := hrel
      have c1 := (HX4.out.grown hgr (by simp)).cellAt 1 (v := .slice P N C) rfl
      have G5 := gr_0 G4 hgr
      by_cases hlt : k + 1 < nV
      · have hk1 : k + 1 < sh.length := by rw [HUl.out]; exact hlt
        have ca := HUC.out wr hgr (k + 1) hk1
        have cb := HUC.out wr hgr k (by omega)
        have hst := steps_at HOr.out.1 k hk1
        have hb1 := HSm.out _ (List.getElem_mem hk1)
        have hb2 := HSm.out _ (List.getElem_mem (show k < sh.length by omega))
        obtain ⟨y, hy⟩ : ∃ y, sh[k + 1] = y := ⟨_, rfl⟩
        obtain ⟨z, hz⟩ : ∃ z, sh[k]'(by omega) = z := ⟨_, rfl⟩
        rw [hy] at ca hst hb1
        rw [hz] at cb hst hb2
        clear hy hz
        obtain ⟨hb1, hb1'⟩ := hb1
        obtain ⟨hb2, hb2'⟩ := hb2
        have b1 : (0 : Int) ≤ (k : Int) + 1 := by omega
        have b2 : (k : Int) + 1 < (nV : Int) := by omega
        have b3 : ((k : Int) + 1).toNat = k + 1 := by omega
        have b4 : (0 : Int) ≤ (k : Int) := by omega
        have b5 : (k : Int) < (nV : Int) := by omega
        have w1' : IntKind.i64.wrap ((k : Int) + 1 - 1) = (k : Int) := by rw [IntWalk.i64_in _ (by omega)]; omega
        have w2' : (k : Int) + 1 - 1 = (k : Int) := by omega
        have w3' : IntKind.i64.wrap (y - z) = (N : Int) := by rw [IntWalk.i64_in _ (by omega)]; exact hst
        have q3 : ((N : Int) != (N : Int)) = false := by simp
        have q4 : (y - z != (N : Int)) = false := by rw [hst]; simp
        have hd : decide ((k : Int) + 1 < (nV : Int)) = true := by simp; omega
        have HST := hid hst
        clear hst
        go_wp2_with fail
        go_quiet (fail)
        go_wp2_with fail
        go_roundw
        case rel => exact ⟨k + 1, by go_num, by omega, gr_drewN hgr _⟩
        case measure => simp [intOf]; omega
      · obtain rfl : nV = k + 1 := by omega
        have h0 : 0 < sh.length := by rw [HUl.out]; omega
        have ca := HUC.out wr hgr 0 h0
        have hst := HOr.out.2 h0
        obtain ⟨y, hy⟩ : ∃ y, sh[0] = y := ⟨_, rfl⟩
        rw [hy] at ca hst
        obtain ⟨hs1, hs2⟩ := hst
        clear hy h0
        have hd : decide ((k : Int) + 1 < (k : Int) + 1) = false := by simp
        have q1 : decide ((0 : Int) ≤ y) = true := by simpa using hs1
        have q2 : decide (y < (N : Int)) = true := by simpa using hs2
        have b2 : (0 : Int) < (k : Int) + 1 := by omega
        have b3 : (0 : Int) < ((k + 1 : Nat) : Int) := by omega
        go_wp2_with fail
        go_quiet (fail)
        go_wp2_with fail
        go_ret
        exact ⟨ret_bool (by first | rfl | simp [q1, q2]), gr_drewN G5 _⟩

end Go.Proofs.Ytmjficimnkbonaa
