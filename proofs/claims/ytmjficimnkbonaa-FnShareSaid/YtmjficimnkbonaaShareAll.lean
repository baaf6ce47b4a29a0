/- The walk of FnShare. -/
import Derived.Test.YtmjficimnkbonaaShareW
namespace Go.Proofs.Ytmjficimnkbonaa
open Go.RowKit

set_option maxHeartbeats 4000000 in
theorem share_walk (A : Option Addr) (n c : Nat) (zs : List Int) (w : World) (h : Code w A n c zs) :
    Calls Try.prog 8 #[.slice A n c] w fun e w' => e = .returned (.bool true) ∧ w.grownBy w' none := by
  have hc := h.cap
  have hm := h.max
  unfold maxLen at hm
  by_cases h1 : n > 1048576
  · go_enter Try.func8, Try.ntmps8
    go_wp2
    go_ret
    exact ⟨rfl, gr_refl _ _⟩
  go_enter Try.func8, Try.ntmps8
  go_wp2_with fail
  refine (dgs_any A n c zs _ h).mono ?_
  rintro e w1 ⟨s, P, N, C, ms, x, rfl, hP, hN, hsz, hs0, hs9, hx, hg1⟩
  have hC := hP.cap
  have hCm := hP.max
  unfold maxLen at hCm
  have X1 := Full.new w1 25 #[.int .i64 s, .slice P N C]
  have P1 := hP.alloc (.cells #[.int .i64 s, .slice P N C] 25)
  have G1 := gr_alloc hg1 (.cells #[.int .i64 s, .slice P N C] 25)
  obtain ⟨sh, hsh⟩ : ∃ v, shareOf s ms x = v := ⟨_, rfl⟩
  obtain ⟨b, hb⟩ : ∃ b, grpB s ms = b := ⟨_, rfl⟩
  have HSH := hid hsh
  have HB := hid hb
  have HL := hid hP.len
  have hshl := hid (show sh.length ≤ 9 from by
    rw [← hsh]
    by_cases q : grpB s ms = true
    · have := share_len (m := x) q; omega
    · rw [shareOf_no (by simpa using q)]; simp)
  have e1 := gsh_any s P N C ms x _ P1
  rw [hsh] at e1
  have c0 := X1.cellAt 0 (v := .int .i64 s) rfl
  have c1 := X1.cellAt 1 (v := .slice P N C) rfl
  clear hsh hb hP hg1 hsz
  go_wp2_with fail
  refine e1.mono ?_
  rintro e w2 ⟨U, nU, cU, rfl, hU, hUl, hg2⟩
  have X2 := X1.grown hg2 (by simp)
  have P2 := P1.grown0 hg2
  have G2 := gr_0 G1 hg2
  have e2 := sgsh_any s P N C ms x _ P2
  rw [HSH.out] at e2
  clear e1 X1 P1 G1 hg2 c0 c1
  have c0 := X2.cellAt 0 (v := .int .i64 s) rfl
  have c1 := X2.cellAt 1 (v := .slice P N C) rfl
  go_wp2_with fail
  refine e2.mono ?_
  rintro e w3 ⟨V, nV, cV, rfl, hV, hVl, hg3⟩
  have X3 := X2.grown hg3 (by simp)
  have P3 := P2.grown0 hg3
  have U3 := hU.kept0 hg3
  have G3 := gr_0 G2 hg3
  have hUn : nU ≤ 9 := by have := hshl.out; omega
  obtain rfl : nV = nU := hVl.symm.trans hUl
  have HUl := hid hUl
  have hcU := U3.cap
  have hmU := U3.max
  have hcV := hV.cap
  have hmV := hV.max
  have e3 := fun w (hU : Lies w U (ints sh)) (hV : Lies w V (ints sh)) => si_is U V nV nV cU cV sh sh true w hU hV hUl hUl hcU hmU hcV hmV (by simp)
  unfold maxLen at hmU hmV
  have e3a := e3 w3 U3.lies hV.lies
  clear e2 X2 P2 G2 hg3 hU c0 c1 hUl hVl
  go_wp2_with fail
  refine e3a.mono ?_
  rintro e w4 ⟨rfl, hg4⟩
  have X4 := X3.grown hg4 (by simp)
  have P4 := P3.grown0 hg4
  have U4 := U3.kept0 hg4
  have V4 := hV.kept0 hg4
  have G4 := gr_0 G3 hg4
  clear e3a X3 P3 U3 hV G3 hg4
  have c0 := X4.cellAt 0 (v := .int .i64 s) rfl
  have c1 := X4.cellAt 1 (v := .slice P N C) rfl
  have e4 := sgv_is s P N C ms b _ P4 HB.out
  go_wp2_with fail
  refine e4.mono ?_
  rintro e w5 ⟨rfl, hg5⟩
  have X5 := X4.grown hg5 (by simp)
  have P5 := P4.grown0 hg5
  have U5 := U4.kept0 hg5
  have V5 := V4.kept0 hg5
  have G5 := gr_0 G4 hg5
  clear e4 X4 P4 U4 V4 G4 hg5 c0 c1
  cases b with
  | false =>
    have e5 := e3 _ U5.lies V5.lies
    go_wp2_with fail
    refine e5.mono ?_
    rintro e w6 ⟨rfl, hg6⟩
    go_wp2_with fail
    go_ret
    exact ⟨rfl, gr_0 G5 hg6⟩
  | true =>
    have hbs := (grpB_iff.1 HB.out).1
    have hbn := (grpB_iff.1 HB.out).2.1
    have hNl := HL.out
    obtain ⟨hs1, hs8⟩ := hbs
    obtain ⟨hn1, hn6⟩ := hbn
    have hN1 : 1 ≤ N := by omega
    have hN6 : N ≤ 6 := by omega
    obtain ⟨S, hS⟩ := Int.eq_ofNat_of_zero_le (show 0 ≤ s by omega)
    subst hS
    have hS8 : S ≤ 8 := by omega
    clear hn1 hn6 hs0 hs9 e3 V5
    obtain ⟨i0, hi, hz0, hz1, hz2⟩ := info_parts intInfo
    have hmk := run_make (P := Try.prog) w5 43 3 i0 _ Try.underlying43 hi hz0 .i64 .i64 S S (by omega) (by omega) (by rw [hz2]; omega) (by omega)
    rw [hz1] at hmk
    simp only [Int.toNat_natCast, Nat.mul_one] at hmk
    have hcs0 : madeCells (Value.int .i64 0).cells S = (ints (List.replicate S 0)).toArray := by
      apply Array.ext'
      simp [madeCells, ints, Value.cells, Nat.mod_one, List.map_const']
    rw [hcs0] at hmk
    have O0 := Own.lit (e := 3) (s := 1) w5 (ints (List.replicate S 0)).toArray S (Nat.le_refl _) (by simp only [maxLen]; omega) (by simp [ints])
    obtain ⟨bx, hbx⟩ : ∃ v, w5.heap.size = v := ⟨_, rfl⟩
    rw [hbx] at O0 hmk
    have HX5 := hid (X5.alloc (.cells (ints (List.replicate S 0)).toArray 3))
    have HP5 := hid (P5.alloc (.cells (ints (List.replicate S 0)).toArray 3))
    have HO5 := hid (show Own (w5.alloc (.cells (ints (List.replicate S 0)).toArray 3)) bx 3 1 (some ⟨bx, 0, none⟩) S S (ints (cnts S N 0)) by rw [cnts_zero]; exact O0)
    have G6 := gr_alloc G5 (.cells (ints (List.replicate S 0)).toArray 3)
    have hPb : ∀ g, blockOf P = some g → g < bx := fun g hg => by
      obtain ⟨g', o, hP', hlt, _⟩ := P5.li.open_ (by rw [strs_len]; omega)
      rw [hP'] at hg
      injection hg with hg
      rw [← hg, ← hbx]; exact hlt
    have hXb : w1.heap.size < bx := by have := X5.lt; omega
    have c0 := X5.cellAt 0 (v := .int .i64 (S : Int)) rfl
    have hwb : w.heap.size ≤ bx := by have := G5.size; omega
    clear X5 P5 U5 G5 O0 hi hz0 hz1 hz2 i0 hcs0 hbx
    go_wp2_with fail
    clear c0 hmk
    go_loopw [7, 9] (fun nn i wr => ∃ k : Nat, nn = .int .i64 (many S N k : Nat) ∧ i = .int .i64 (k : Int) ∧ k ≤ N ∧ Full wr w1.heap.size 25 #[.int .i64 (S : Int), .slice P N C] ∧ SArg wr P N C ms ∧ Own wr bx 3 1 (some ⟨bx, 0, none⟩) S S (ints (cnts S N k)) ∧ w.grownBy wr none) (fun _ i _ => N - (intOf i).toNat)
    case atStart => exact ⟨0, rfl, rfl, by omega, HX5.out, HP5.out, HO5.out, G6⟩
    case round =>
      clear HX5 HP5 HO5 G6
      obtain ⟨k, rfl, rfl, hkN, hX, hP, hO, hG⟩ := hrel
      have c1 := hX.cellAt 1 (v := .slice P N C) rfl
      have hmy := many_le S N k
      have hmy2 : k * S ≤ 48 := Nat.le_trans (Nat.mul_le_mul (show k ≤ 6 by omega) hS8) (by omega)
      obtain ⟨nk, hnk⟩ : ∃ v, many S N k = v := ⟨_, rfl⟩
      rw [hnk] at hmy
      simp only [hnk]
      have HNk := hid hnk
      clear hnk
      by_cases hlt : k < N
      · have hkl : k < ms.length := by omega
        obtain ⟨gP, oP, rfl, hgP, hcell⟩ := hP.li.open_ (by rw [strs_len]; omega)
        have hCm' := memCells hcell hkl
        have HSA := hid (share_at (s := (S : Int)) HB.out hkl)
        have HBm := hid (bumps_all S (by omega) N (by omega) k hlt)
        obtain ⟨m, hm'⟩ : ∃ m, ms[k] = m := ⟨_, rfl⟩
        simp only [hm'] at hCm' HSA
        have c0 := hX.cellAt 0 (v := .int .i64 (S : Int)) rfl
        have hC0 : ∀ w' : World, wr.grownBy w' none → w'.cell? ⟨w1.heap.size, 0, none⟩ = some (.int .i64 (S : Int)) := fun w' h => h.cell c0 (by simp)
        have hC1 : ∀ w' : World, wr.grownBy w' none → w'.cell? ⟨w1.heap.size, 1, none⟩ = some (.slice (some ⟨gP, oP, none⟩) N C) := fun w' h => h.cell c1 (by simp)
        have b1 : (0 : Int) ≤ (k : Int) := by omega
        have b2 : (k : Int) < (N : Int) := by omega
        have HP := hid hP
        have HX := hid hX
        have HO := hid hO
        clear hm' hcell hP hX c0 hO
        go_wp2_with fail
        clear c1
        go_region_held3 (fun w' => wr.grownBy w' none) (repeat (first | (with_reducible assumption) | (with_reducible exact gr_refl _ _) | (with_reducible refine gr_drew ?_) | (with_reducible refine gr_0 ?_ hg7)))
          ((go_at_call 29
            refine (gsh_any (S : Int) _ N C ms m _ (HP.out.grown0 (gr_drew (gr_refl wr none)))).mono ?_
            rintro e w7 ⟨Q, nQ, cQ, rfl, hQ, hQl, hg7⟩
            skip))
        have HM := hid (show shareOf (S : Int) ms m = mods S N k by rw [HSA.out, HL.out, Int.toNat_natCast])
        have hQ7 := hid (show (mods S N k).length = nQ by rw [← hQl, HM.out])
        have hnQ : nQ ≤ S := by rw [← hQ7.out]; exact picks_len S _
        have G7 := gr_0 (gr_drew (gr_refl wr none)) hg7
        have X7 := HX.out.grown G7 (by simp)
        have P7 := HP.out.grown0 G7
        have O7 := HO.out.kept0 G7
        have GG := gr_0 hG G7
        rw [HM.out] at hQ
        have hwr := hG.size
        have hOl := (HO.out.block (b := bx) rfl).2
        have hQb : ∀ g, blockOf Q = some g → bx < g := fun g hg => by have := (hQ.block hg).1; simp at this; omega
        have HX7 := hid X7
        have HP7 := hid P7
        have HO7 := hid O7
        have HQL := hid hQ.lies
        have hQc := hQ.cap
        have hQm := hQ.max
        unfold maxLen at hQm
        clear hC0 hC1 hCm' hQl hg7 G7 hG X7 P7 O7 hQ HX HP HO
        obtain ⟨wo, hwo⟩ : ∃ wo, wo = w7 := ⟨_, rfl⟩
        subst hwo
        go_wp2_with fail
        go_loopw [7, 11] (fun nn i wr => ∃ j : Nat, nn = .int .i64 ((nk : Int) + (j : Int)) ∧ i = .int .i64 (j : Int) ∧ j ≤ nQ ∧ Full wr w1.heap.size 25 #[.int .i64 (S : Int), .slice (some ⟨gP, oP, none⟩) N C] ∧ SArg wr (some ⟨gP, oP, none⟩) N C ms ∧ Own wr bx 3 1 (some ⟨bx, 0, none⟩) S S (ints (bumps (cnts S N k) ((mods S N k).take j))) ∧ Lies wr Q (ints (mods S N k)) ∧ w.grownBy wr none) (fun _ i _ => nQ - (intOf i).toNat)
        case atStart => exact ⟨0, by first | rfl | simp, rfl, by omega, HX7.out, HP7.out, HO7.out, HQL.out, GG⟩
        case round =>
          clear HX7 HP7 HO7 HQL GG
          obtain ⟨j, rfl, rfl, hjQ, hX, hP, hO, hQl, hG⟩ := hrel
          by_cases hlt2 : j < nQ
          · have hjl : j < (mods S N k).length := by rw [hQ7.out]; exact hlt2
            obtain ⟨gQ, oQ, rfl, _, hcQ⟩ := hQl.open_ (by rw [ints_len]; omega)
            have cq := intAt hcQ hjl
            obtain ⟨t, ht, htS, _⟩ := mods_mem (List.getElem_mem hjl)
            have HNx := hid (bumps_next (l := cnts S N k) hjl)
            rw [ht] at cq HNx
            obtain ⟨l, hl⟩ : ∃ l, bumps (cnts S N k) ((mods S N k).take j) = l := ⟨_, rfl⟩
            have hll : l.length = S := by rw [← hl, bumps_len, cnts_len]
            have hlb : ∀ y ∈ l, 0 ≤ y ∧ y ≤ 1 := by rw [← hl]; exact HBm.out.2 j (by omega)
            rw [hl] at hO HNx
            have HLb := hid hlb
            have hgQ : bx < gQ := hQb gQ rfl
            obtain ⟨gB, cur, hgB, _, FB, hcB⟩ := hO.open_ (by omega)
            injection hgB with hgB
            injection hgB with hgB
            subst hgB
            have ct := getAtI hcB (k := t) (by omega)
            have fB := FB.free t
            have hv := hlb (l.getD t 0) (getD_memI (by omega))
            obtain ⟨v, hv'⟩ : ∃ v, l.getD t 0 = v := ⟨_, rfl⟩
            have HV := hid hv'
            rw [hv'] at ct hv
            obtain ⟨hv0, hv1⟩ := hv
            have HNy := hid (show bumps (cnts S N k) ((mods S N k).take (j + 1)) = l.set t (v + 1) by rw [HNx.out, bump, Int.toNat_natCast, HV.out])
            have i1 : IntKind.i64.wrap (v + 1) = v + 1 := IntWalk.i64_in _ (by omega)
            have i2 : IntKind.i64.wrap ((nk : Int) + (j : Int) + 1) = (nk : Int) + (j : Int) + 1 := IntWalk.i64_in _ (by omega)
            have b3 : (0 : Int) ≤ (j : Int) := by omega
            have b4 : (j : Int) < (nQ : Int) := by omega
            have b5 : (0 : Int) ≤ (t : Int) := by omega
            have b6 : (t : Int) < (S : Int) := by omega
            have n1 : gQ ≠ bx := by omega
            have n2 : bx ≠ gQ := by omega
            have OZ := hO.drew.set t (.int .i64 (v + 1))
            have HOZ := hid (show Own (wr.drew.setCell ⟨bx, t, none⟩ (.int .i64 (v + 1))) bx 3 1 (some ⟨bx, 0, none⟩) S S (ints (bumps (cnts S N k) ((mods S N k).take (j + 1)))) by rw [HNy.out, ← ints_setI]; exact OZ)
            have XZ := hX.drew.far (p := ⟨bx, t, none⟩) (by simp; omega) (.int .i64 (v + 1))
            have PZ : SArg (wr.drew.setCell ⟨bx, t, none⟩ (.int .i64 (v + 1))) (some ⟨gP, oP, none⟩) N C ms := ⟨Lies.setCell (hP.li.drew) (fun b hb => by have := hPb b hb; simp; omega) _, hP.len, hP.cap, hP.max, hP.sz⟩
            have QZ : Lies (wr.drew.setCell ⟨bx, t, none⟩ (.int .i64 (v + 1))) (some ⟨gQ, oQ, none⟩) (ints (mods S N k)) := Lies.setCell (hQl.drew) (fun b hb => by have := hQb b hb; simp; omega) _
            have GZ := gr_put (b := bx) (i := t) (gr_drew hG) hwb (.int .i64 (v + 1))
            have HPZ := hid PZ
            have HQZ := hid QZ
            clear hl hlb hv' hcB FB hO hX hP hQl hG OZ PZ QZ hcQ ht HNx
            go_wp2_with fail
            go_region_law (fail)
            all_goals
              go_wp2_with fail
              go_roundw
              case rel => exact ⟨j + 1, by first | (congr 1; omega) | rfl | (simp only [i2]; congr 1; omega), by go_num, by omega, XZ, HPZ.out, HOZ.out, HQZ.out, GZ⟩
              case measure => simp [intOf]; omega
          · obtain rfl : j = nQ := by omega
            have HE := hid (show bumps (cnts S N k) ((mods S N k).take j) = cnts S N (k + 1) by rw [List.take_of_length_le (by rw [hQ7.out]; omega)]; exact HBm.out.1)
            have HNk2 := hid (show many S N (k + 1) = nk + j by rw [many, HNk.out, hQ7.out])
            rw [HE.out] at hO
            go_wp2_with fail
            go_roundw
            case rel => exact ⟨k + 1, by rw [HNk2.out]; first | rfl | (congr 1; omega), by go_num, by omega, hX, hP, hO, hG⟩
            case measure => simp [intOf]; omega
      · obtain rfl : k = N := by omega
        have HAll := hid (many_all S (by omega) k (by omega) (by omega))
        have hnS : nk = S := by rw [← HNk.out]; exact HAll.out.1
        have HO1 := hid (show Own wr bx 3 1 (some ⟨bx, 0, none⟩) S S (ints (List.replicate S 1)) by rw [← HAll.out.2]; exact hO)
        have hsh8 := hid (show nV ≤ S from by
          have := share_len (m := x) HB.out
          rw [HSH.out, HUl.out] at this
          omega)
        clear HNk
        subst hnS
        have HX := hid hX
        clear hO hX
        go_wp2_with fail
        clear c1
        obtain ⟨wo, hwo⟩ : ∃ wo, wo = wr := ⟨_, rfl⟩
        subst hwo
        go_loopw [12] (fun i wr => ∃ t : Nat, i = .int .i64 (t : Int) ∧ t ≤ nk ∧ wo.grownBy wr none) (fun i _ => nk - (intOf i).toNat)
        case atStart => exact ⟨0, rfl, by omega, gr_refl _ _⟩
        case round =>
          obtain ⟨t, rfl, htS, hgr⟩ := hrel
          have c0 := (HX.out.grown hgr (by simp)).cellAt 0 (v := .int .i64 (nk : Int)) rfl
          by_cases hlt2 : t < nk
          · obtain ⟨gB, cur, hgB, _, FB, hcB⟩ := HO1.out.open_ (by omega)
            injection hgB with hgB
            injection hgB with hgB
            subst hgB
            have ct := hgr.cell (hcB t (.int .i64 1) (by simp [ints, htS, hlt2])) (by simp)
            have b5 : (0 : Int) ≤ (t : Int) := by omega
            have b6 : (t : Int) < (nk : Int) := by omega
            clear hcB FB
            go_wp2_with fail
            go_roundw
            case rel => exact ⟨t + 1, by go_num, by omega, hgr⟩
            case measure => simp [intOf]; omega
          · obtain rfl : t = nk := by omega
            have d1 : decide ((nV : Int) ≤ (t : Int)) = true := by have := hsh8.out; simp; omega
            have d2 : decide (nV ≤ t) = true := by have := hsh8.out; simp; omega
            go_wp2_with fail
            go_ret
            exact ⟨ret_bool (by first | rfl | simp [d1, d2]), gr_0 hG hgr⟩

end Go.Proofs.Ytmjficimnkbonaa
