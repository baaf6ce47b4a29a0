/- The walk of FnMovesAll. -/
import Derived.Test.YtmjficimnkbonaaShareW
import Derived.Test.YtmjficimnkbonaaMovesW
namespace Go.Proofs.Ytmjficimnkbonaa
open Go.RowKit

set_option maxHeartbeats 4000000 in
theorem movesAll_walk (A : Option Addr) (n c : Nat) (zs : List Int) (w : World) (h : Code w A n c zs) :
    Calls Try.prog 11 #[.slice A n c] w fun e w' => e = .returned (.bool true) ∧ w.grownBy w' none := by
  have hc := h.cap
  have hm := h.max
  unfold maxLen at hm
  by_cases h1 : n > 1048576
  · go_enter Try.func11, Try.ntmps11
    go_wp2
    go_ret
    exact ⟨rfl, gr_refl _ _⟩
  go_enter Try.func11, Try.ntmps11
  go_wp2_with fail
  refine (dgm_any A n c zs _ h).mono ?_
  rintro e w1 ⟨s, P, N, C, ms, r, Q, M, D, ns, rfl, hP, hQ, hN, hM, _, _, hg1⟩
  obtain ⟨v, hv⟩ : ∃ v, movesOf s ms r ns = v := ⟨_, rfl⟩
  have HV := hid hv
  obtain ⟨ub, hub⟩ : ∃ ub, w1.heap.size + 1 = ub := ⟨_, rfl⟩
  have hub1 : w1.heap.size ≠ ub := by omega
  have hub2 : ub ≠ w1.heap.size := by omega
  have X1 := (((((Full.new w1 25 #[.int .i64 0, .slice none 0 0]).alloc (.cells #[.int .i64 0, .slice none 0 0] 25)).set 0 (.int .i64 s)).set 1 (.slice P N C)).far (p := ⟨ub, 0, none⟩) (by simpa using hub1) (.int .i64 r)).far (p := ⟨ub, 1, none⟩) (by simpa using hub1) (.slice Q M D)
  have Y1 := ((((Full.newAt (w := w1.alloc (.cells #[.int .i64 0, .slice none 0 0] 25)) (t := 25) (cs := #[.int .i64 0, .slice none 0 0]) (H := ub) (by simp; omega)).far (p := ⟨w1.heap.size, 0, none⟩) (by simpa using hub2) (.int .i64 s)).far (p := ⟨w1.heap.size, 1, none⟩) (by simpa using hub2) (.slice P N C)).set 0 (.int .i64 r)).set 1 (.slice Q M D)
  have gW := gr_put (i := 1) (gr_put (i := 0) (gr_put (i := 1) (gr_put (i := 0) (gr_alloc (gr_alloc (gr_refl w1 none) (.cells #[.int .i64 0, .slice none 0 0] 25)) (.cells #[.int .i64 0, .slice none 0 0] 25)) (b := w1.heap.size) (Nat.le_refl _) (.int .i64 s)) (b := w1.heap.size) (Nat.le_refl _) (.slice P N C)) (b := ub) (by omega) (.int .i64 r)) (b := ub) (by omega) (.slice Q M D)
  have P1 := hP.grown0 gW
  have Q1 := hQ.grown0 gW
  have G1 := gr_0 hg1 gW
  have e1 := gmv_is s r P Q N C M D ms ns v _ P1 Q1 hv
  have c0 := X1.cellAt 0 (v := .int .i64 s) rfl
  have c1 := X1.cellAt 1 (v := .slice P N C) rfl
  have d0 := Y1.cellAt 0 (v := .int .i64 r) rfl
  have d1 := Y1.cellAt 1 (v := .slice Q M D) rfl
  clear hv hP hQ hg1 gW
  go_wp2_with fail
  refine e1.mono ?_
  rintro e w2 ⟨rfl, hg2⟩
  have X2 := X1.grown hg2 (by simp)
  have Y2 := Y1.grown hg2 (by simp)
  have P2 := P1.grown0 hg2
  have Q2 := Q1.grown0 hg2
  have G2 := gr_0 G1 hg2
  clear e1 X1 Y1 P1 Q1 G1 hg2 c0 c1 d0 d1
  have c0 := X2.cellAt 0 (v := .int .i64 s) rfl
  have c1 := X2.cellAt 1 (v := .slice P N C) rfl
  have d0 := Y2.cellAt 0 (v := .int .i64 r) rfl
  have d1 := Y2.cellAt 1 (v := .slice Q M D) rfl
  have e1 := sgmv_is s r P Q N C M D ms ns v _ P2 Q2 HV.out
  go_wp2_with fail
  refine e1.mono ?_
  rintro e w3 ⟨rfl, hg3⟩
  have X3 := X2.grown hg3 (by simp)
  have Y3 := Y2.grown hg3 (by simp)
  have P3 := P2.grown0 hg3
  have Q3 := Q2.grown0 hg3
  have G3 := gr_0 G2 hg3
  clear e1 X2 Y2 P2 Q2 G2 hg3 c0 c1 d0 d1
  have qv : (v != v) = false := by simp
  have qv2 : (v == v) = true := by simp
  rcases (by omega : v < 0 ∨ 0 ≤ v) with hv0 | hv0
  · have dv : decide (v < 0) = true := by simpa using hv0
    go_wp2_with fail
    go_ret
    exact ⟨ret_bool (by first | rfl | simp), G3⟩
  have dv : decide (v < 0) = false := by simp; omega
  have hb1 : grpB s ms = true := by
    by_cases q : grpB s ms = true
    · exact q
    · have := movesOf_no (s := s) (r := r) (ms := ms) (ns := ns) (.inl (by simpa using q)); rw [HV.out] at this; omega
  have hb2 : grpB r ns = true := by
    by_cases q : grpB r ns = true
    · exact q
    · have := movesOf_no (s := s) (r := r) (ms := ms) (ns := ns) (.inr (.inl (by simpa using q))); rw [HV.out] at this; omega
  have hsr : s = r := by
    by_cases q : s = r
    · exact q
    · have := movesOf_no (s := s) (r := r) (ms := ms) (ns := ns) (.inr (.inr q)); rw [HV.out] at this; omega
  subst hsr
  obtain ⟨⟨hs1, hs8⟩, ⟨hn1, hn6⟩, _⟩ := grpB_iff.1 hb1
  have hPl := P3.len
  have hN1 : 1 ≤ N := by omega
  have hN6 : N ≤ 6 := by omega
  have HPl := hid hPl
  obtain ⟨S, hS⟩ := Int.eq_ofNat_of_zero_le (show 0 ≤ s by omega)
  subst hS
  have hS8 : S ≤ 8 := by omega
  have HB1 := hid hb1
  have HB2 := hid hb2
  have HMv := hid (show ((movesTo (diff ms ns) S N N : Nat) : Int) = v by rw [← HV.out, ← moves_all hb1 hb2 rfl, hPl, Int.toNat_natCast])
  have HDv : ∀ D : Nat → Bool, ∀ i, movesTo D S N i ≤ i * S := fun D i => by
    induction i with
    | zero => exact Nat.zero_le _
    | succ i ih =>
      have h1 := picks_len S (fun t => decide (t % N = i))
      have h2 := cntD_le D (mods S N i)
      rw [mods] at h2
      rw [movesTo, mods, Nat.add_mul]
      omega
  have HX3 := hid X3
  have HY3 := hid Y3
  have HP3 := hid P3
  have HQ3 := hid Q3
  have HDv := hid (HDv (diff ms ns))
  obtain ⟨wo, hwo⟩ : ∃ wo, wo = w3 := ⟨_, rfl⟩
  subst hwo
  clear hb1 hb2 hn1 hn6 hPl X3 Y3 P3 Q3 hub
  go_wp2_with fail
  go_loopw [7, 8] (fun nn i wr => ∃ k : Nat, nn = .int .i64 (movesTo (diff ms ns) S N k : Nat) ∧ i = .int .i64 (k : Int) ∧ k ≤ N ∧ wo.grownBy wr none) (fun _ i _ => N - (intOf i).toNat)
  case atStart => exact ⟨0, rfl, rfl, by omega, gr_refl _ _⟩
  case round =>
    obtain ⟨k, rfl, rfl, hkN, hgr⟩ := hrel
    have hX := HX3.out.grown hgr (by simp)
    have hY := HY3.out.grown hgr (by simp)
    have hP := HP3.out.grown0 hgr
    have hQ := HQ3.out.grown0 hgr
    have c1 := hX.cellAt 1 (v := .slice P N C) rfl
    have hmy := HDv.out k
    have hmy2 : k * S ≤ 48 := Nat.le_trans (Nat.mul_le_mul (show k ≤ 6 by omega) hS8) (by omega)
    obtain ⟨nk, hnk⟩ : ∃ x, movesTo (diff ms ns) S N k = x := ⟨_, rfl⟩
    rw [hnk] at hmy
    simp only [hnk]
    have HNk := hid hnk
    clear hnk
    by_cases hlt : k < N
    · have hkl : k < ms.length := by rw [HPl.out]; exact hlt
      obtain ⟨gP, oP, rfl, hgP, hcell⟩ := hP.li.open_ (by rw [strs_len]; omega)
      have hCm' := memCells hcell hkl
      have HSA := hid (share_at (s := (S : Int)) HB1.out hkl)
      have HMo := hid (show ∀ x ∈ mods S N k, decide (x ∈ shareOf (S : Int) ns ms[k]) = !diff ms ns x.toNat from fun x hx => moves_one (s := (S : Int)) (r := (S : Int)) HB1.out HB2.out rfl hkl (x := x) (by rw [HPl.out, Int.toNat_natCast]; exact hx))
      obtain ⟨m, hm'⟩ : ∃ m, ms[k] = m := ⟨_, rfl⟩
      simp only [hm'] at hCm' HSA HMo
      have c0 := hX.cellAt 0 (v := .int .i64 (S : Int)) rfl
      have hC0 : ∀ w' : World, wr.grownBy w' none → w'.cell? ⟨w1.heap.size, 0, none⟩ = some (.int .i64 (S : Int)) := fun w' h => h.cell c0 (by simp)
      have hC1 : ∀ w' : World, wr.grownBy w' none → w'.cell? ⟨w1.heap.size, 1, none⟩ = some (.slice (some ⟨gP, oP, none⟩) N C) := fun w' h => h.cell c1 (by simp)
      have b1 : (0 : Int) ≤ (k : Int) := by omega
      have b2 : (k : Int) < (N : Int) := by omega
      have HPa := hid hP
      have HQa := hid hQ
      have HX := hid hX
      have HY := hid hY
      clear hm' hcell hP hQ hX hY c0
      go_wp2_with fail
      clear c1
      go_region_held3 (fun w' => wr.grownBy w' none) (repeat (first | (with_reducible assumption) | (with_reducible exact gr_refl _ _) | (with_reducible refine gr_drew ?_) | (with_reducible refine gr_0 ?_ hg7)))
        ((go_at_call 29
          refine (gsh_any (S : Int) _ N C ms m _ (HPa.out.grown0 (gr_drew (gr_refl wr none)))).mono ?_
          rintro e w7 ⟨Q7, nQ7, cQ7, rfl, hQ7, hQl7, hg7⟩
          skip))
      have G7 := gr_0 (gr_drew (gr_refl wr none)) hg7
      have GG := gr_0 hgr G7
      have HM := hid (show shareOf (S : Int) ms m = mods S N k by rw [HSA.out, HPl.out, Int.toNat_natCast])
      rw [HM.out] at hQ7 hQl7
      have hnQ : nQ7 ≤ S := by rw [← hQl7]; exact picks_len S _
      have hQc7 := hQ7.cap
      have hQm7 := hQ7.max
      unfold maxLen at hQm7
      have HQl7 := hid hQl7
      have HQ7 := hid hQ7.lies
      have hCm8 : ∀ w' : World, w7.grownBy w' none → w'.cell? ⟨gP, oP + k, none⟩ = some (.string m) := fun w' h => hCm' w' (gr_0 G7 h)
      have hC81 : ∀ w' : World, w7.grownBy w' none → w'.cell? ⟨w1.heap.size, 1, none⟩ = some (.slice (some ⟨gP, oP, none⟩) N C) := fun w' h => hC1 w' (gr_0 G7 h)
      have y0 := HY.out.cellAt 0 (v := .int .i64 (S : Int)) rfl
      have y1 := HY.out.cellAt 1 (v := .slice Q M D) rfl
      have hC82 : ∀ w' : World, w7.grownBy w' none → w'.cell? ⟨ub, 0, none⟩ = some (.int .i64 (S : Int)) := fun w' h => (gr_0 G7 h).cell y0 (by simp)
      have hC83 : ∀ w' : World, w7.grownBy w' none → w'.cell? ⟨ub, 1, none⟩ = some (.slice Q M D) := fun w' h => (gr_0 G7 h).cell y1 (by simp)
      have HQb := hid (HQa.out.grown0 G7)
      clear hC0 hC1 hCm' hQl7 hQ7 y0 y1 hg7
      go_wp2_with fail
      go_region_held3 (fun w' => w7.grownBy w' none) (repeat (first | (with_reducible assumption) | (with_reducible exact gr_refl _ _) | (with_reducible refine gr_drew ?_) | (with_reducible refine gr_0 ?_ hg8)))
        ((go_at_call 29
          refine (gsh_any (S : Int) _ M D ns m _ (HQb.out.grown0 (gr_drew (gr_refl w7 none)))).mono ?_
          rintro e w8 ⟨Q8, nQ8, cQ8, rfl, hQ8, hQl8, hg8⟩
          skip))
      have G8 := gr_0 (gr_drew (gr_refl w7 none)) hg8
      have GH := gr_0 GG G8
      have hQc8 := hQ8.cap
      have hQm8 := hQ8.max
      have HQl8 := hid hQl8
      have HQ8 := hid hQ8.lies
      have HQ78 := hid (HQ7.out.grown0 G8)
      have hnQ8 : nQ8 ≤ 8 := by
        have := share_len (m := m) HB2.out
        rw [HQl8.out] at this
        omega
      clear hC81 hC82 hC83 hCm8 hQl8 hQ8 hg8 G7 G8 GG
      obtain ⟨wi, hwi⟩ : ∃ wi, wi = w8 := ⟨_, rfl⟩
      subst hwi
      go_wp2_with fail
      go_loopw [7, 11] (fun nn i wr => ∃ j : Nat, nn = .int .i64 ((nk : Int) + (cntD (diff ms ns) ((mods S N k).take j) : Nat)) ∧ i = .int .i64 (j : Int) ∧ j ≤ nQ7 ∧ wi.grownBy wr none) (fun _ i _ => nQ7 - (intOf i).toNat)
      case atStart => exact ⟨0, by first | rfl | simp [cntD], rfl, by omega, gr_refl _ _⟩
      case round =>
        obtain ⟨j, rfl, rfl, hjQ, hgr2⟩ := hrel
        have hq7 := HQ78.out.grown0 hgr2
        have hq8 := HQ8.out.grown0 hgr2
        have hcd := cntD_le (diff ms ns) ((mods S N k).take j)
        rw [List.length_take] at hcd
        obtain ⟨cd, hcde⟩ : ∃ x, cntD (diff ms ns) ((mods S N k).take j) = x := ⟨_, rfl⟩
        rw [hcde] at hcd
        simp only [hcde]
        by_cases hlt2 : j < nQ7
        · have hjl : j < (mods S N k).length := by rw [HQl7.out]; exact hlt2
          have hNx := cntD_next (D := diff ms ns) hjl
          rw [hcde] at hNx
          have hone := HMo.out _ (List.getElem_mem hjl)
          obtain ⟨gQ, oQ, rfl, _, hcQ⟩ := hq7.open_ (by rw [ints_len]; omega)
          have cq := intAt hcQ hjl
          obtain ⟨x, hx⟩ : ∃ x, (mods S N k)[j] = x := ⟨_, rfl⟩
          rw [hx] at cq hNx hone
          obtain ⟨b, hb⟩ : ∃ b, diff ms ns x.toNat = b := ⟨_, rfl⟩
          rw [hb] at hNx hone
          have e5 := hi_is Q8 nQ8 cQ8 (shareOf (S : Int) ns m) x (!b) wr hq8 HQl8.out hQc8 hQm8 hone
          have HNx := hid hNx
          have HCd := hid hcde
          have b3 : (0 : Int) ≤ (j : Int) := by omega
          have b4 : (j : Int) < (nQ7 : Int) := by omega
          clear hx hcQ hNx hone hcde hb hq7 hq8
          go_wp2_with fail
          refine e5.mono ?_
          rintro e w_ ⟨rfl, rfl⟩
          clear e5
          cases b with
          | false =>
            have HE := hid (show cntD (diff ms ns) ((mods S N k).take (j + 1)) = cd by rw [HNx.out]; rfl)
            go_wp2_with fail
            go_roundw
            case rel => exact ⟨j + 1, by rw [HE.out], by go_num, by omega, hgr2⟩
            case measure => simp [intOf]; omega
          | true =>
            have HE := hid (show cntD (diff ms ns) ((mods S N k).take (j + 1)) = cd + 1 by rw [HNx.out]; rfl)
            have i1 : IntKind.i64.wrap ((nk : Int) + (cd : Int) + 1) = (nk : Int) + (cd : Int) + 1 := IntWalk.i64_in _ (by omega)
            go_wp2_with fail
            go_roundw
            case rel => exact ⟨j + 1, by rw [HE.out]; first | rfl | (congr 1; omega), by go_num, by omega, hgr2⟩
            case measure => simp [intOf]; omega
        · obtain rfl : j = nQ7 := by omega
          have HE := hid (show movesTo (diff ms ns) S N (k + 1) = nk + cd by
            rw [movesTo, HNk.out, ← hcde, List.take_of_length_le (by rw [HQl7.out]; omega)])
          have HG := hid (gr_0 GH hgr2)
          clear hcde
          go_wp2_with fail
          go_roundw
          case rel => exact ⟨k + 1, by rw [HE.out]; first | rfl | (congr 1; omega), by go_num, by omega, HG.out⟩
          case measure => simp [intOf]; omega
    · obtain rfl : k = N := by omega
      have q4 : ((nk : Int) == v) = true := by
        have := HMv.out
        rw [HNk.out] at this
        simpa using this
      go_wp2_with fail
      go_ret
      exact ⟨ret_bool (by first | rfl | exact q4 | simp [q4]), gr_0 G3 hgr⟩
end Go.Proofs.Ytmjficimnkbonaa
